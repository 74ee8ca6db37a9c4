/- Part 1 of the texts of this claim: what its theorem leans on. -/
import Derived.WalkKit
import Derived.Deep.Quiet
import Derived.StillTail
import Derived.ProofKit
import Derived.OpenShut
import Derived.Carry
import Derived.Deep.Slices
import Derived.Scope
import Derived.Laws.StructEq
namespace Go
theorem rf{α:Sort _}{a:α}:a=a:=rfl
end Go
namespace Go.GK
def lk:List (Nat×Value)→Nat→Option Value
 | [],_=>none
 |(k,v)::l,t=>match Nat.beq k t with
  |true=>some v
  |false=>lk l t
structure Fr(a:Act)(n:Nat)(L:List (Nat×Value)):Prop where
 defers:a.defers=[]
 size:a.tmps.size=n
 get:∀t v,lk L t=some v→a.tmps.getD t undef=v
theorem Fr.put{a:Act}{n:Nat}{L:List (Nat×Value)}(h:Fr a n L){d:Nat}(hd:Nat.blt d n=true)(v:Value):Fr (a.put (some d) v) n ((d,v)::L):=by
 have hd':d<n:=by simpa using hd
 refine⟨h.defers,by simp[Act.put,h.size],fun t u hu=>?_⟩
 simp only[lk]at hu
 simp only[Act.put]
 cases hb:Nat.beq d t with
 |true=>
  have e:d=t:=Nat.eq_of_beq_eq_true hb
  subst e
  rw[hb]at hu
  have e2:v=u:=by simpa using hu
  subst e2
  simp[h.size,hd']
 |false=>
  rw[hb]at hu
  have ne:d≠t:=Nat.ne_of_beq_eq_false hb
  have:=h.get t u hu
  simp only[Array.getD_eq_getD_getElem?]at this⊢
  rw[Array.getElem?_setIfInBounds_ne ne]
  exact this
def ev(L:List (Nat×Value)):Operand→Option Value
 | .tmp t=>lk L t
 | .const v=>some v
 | .global g=>some (.pointer (some ⟨g,0,none⟩))
 | .func f=>some (.func (.func f) #[] #[])
theorem Fr.eval{a:Act}{n:Nat}{L:List (Nat×Value)}(h:Fr a n L){x:Operand}{v:Value}(hx:ev L x=some v):a.eval x=v:=by
 cases x with
 |tmp t=>exact h.get t v hx
 |const u=>simpa [ev,Act.eval]using hx
 |global g=>simpa [ev,Act.eval]using hx
 |func f=>simpa [ev,Act.eval]using hx
def ZO(L:List (Nat×Value)):List Operand→Option (List Value)
 | []=>some []
 |x::xs=>match ev L x,ZO L xs with
  |some v,some vs=>some (v::vs)
  |_,_=>none
def Sub(L' L:List (Nat×Value)):Prop:= ∀t v,lk L' t=some v→lk L t=some v
theorem Sub.nil{L:List (Nat×Value)} :Sub [] L:=fun _ _ h=>by simp[lk]at h
theorem Sub.cons{L L':List (Nat×Value)}{t:Nat}{v:Value}(h:lk L t=some v)(k:Sub L' L):Sub ((t,v)::L') L:=fun t' v' h'=>by
 simp only[lk]at h'
 cases hb:Nat.beq t t' with
 |true=>
  rw[hb]at h'
  have e:t=t':=Nat.eq_of_beq_eq_true hb
  subst e
  rw[h];exact h'
 |false=>rw[hb]at h';exact k _ _ h'
theorem Fr.sub{a:Act}{n:Nat}{L L':List (Nat×Value)}(h:Fr a n L)(s:Sub L' L):Fr a n L':=⟨h.defers,h.size,fun t v hv=>h.get t v (s t v hv)⟩
structure Hp where
 at_:Nat→Option Obj
 os:Os
 output:Array (Nat×ByteArray)
 tape:Nat→Question→Nat
def Hp.le(H H':Hp):Prop:=(∀b o,H.at_ b=some o→H'.at_ b=some o)∧H'.os=H.os∧H'.output=H.output∧H'.tape=H.tape
theorem Hp.le.refl(H:Hp):H.le H:=⟨fun _ _ h=>h,rfl,rfl,rfl⟩
theorem Hp.le.trans{A B C:Hp}(h:A.le B)(k:B.le C):A.le C:=⟨fun b o x=>k.1 b o (h.1 b o x),k.2.1.trans h.2.1,k.2.2.1.trans h.2.2.1,k.2.2.2.trans h.2.2.2⟩
inductive A2 where
 |Az (b:Nat) (o:Obj)
 |row (v:Value) (e:TypeId) (size n:Nat) (xs:List Value)
 |emp
 |own (b:Nat) (C:World→Prop) (lt:∀w,C w→b<w.heap.size) (kept:∀w w' row,C w→w.grownBy w' row→row≠some b→C w')
def A2.block:A2→Option Nat
 | .Az b _=>some b
 | .row v .. =>v.ownBlock
 | .emp=>none
 | .own b .. =>some b
def A2.ok(w:World):A2→Prop
 | .Az b o=>w.heap[b]?=some o
 | .row v e size n xs=>w.ownsRow 0 e size v n xs
 | .emp=>True
 | .own _ C _ _=>C w
structure SH(w:World)(H:Hp)(O:List A2):Prop where
 OE:∀b o,H.at_ b=some o→w.heap[b]?=some o
 os:w.os=H.os
 output:w.output=H.output
 tape:w.tape=H.tape
 ok:∀(i:Nat) (r:A2),O[i]?=some r→r.ok w
 NV:∀(i:Nat) (r:A2) (b:Nat),O[i]?=some r→r.block=some b→H.at_ b=none
 nd:∀(i j:Nat) (r r':A2) (b:Nat),O[i]?=some r→O[j]?=some r'→r.block=some b→r'.block=some b→i=j
theorem A2.ok.lt{w:World}{r:A2}(h:r.ok w){b:Nat}(hb:r.block=some b):b<w.heap.size:=by
 cases r with
 |Az b' o=>
  simp only[A2.block,Option.some.injEq]at hb
  subst hb
  exact(Array.getElem?_eq_some_iff.1 h).1
 |row v e size n xs=>exact(World.ownsRow.lt h b hb).2
 |emp=>cases hb
 |own b' C lt kept=>
  simp only[A2.block,Option.some.injEq]at hb
  subst hb
  exact lt w h
theorem A2.ok.grown{w w':World}{row:Option Nat}{r:A2}(h:r.ok w)(hg:w.grownBy w' row)(hne:∀b,r.block=some b→row≠some b):r.ok w':=by
 cases r with
 |Az b o=>
  have hlt:=A2.ok.lt h (b:=b) rfl
  show w'.heap[b]?=some o
  rw[hg.block b hlt (fun e=>hne b rfl e.symm)]
  exact h
 |row v e size n xs=>
  refine World.ownsRow.kept h hg ?_
  cases hv:v.ownBlock with
  |none=>exact .inl rfl
  |some b=>exact .inr (fun e=>hne b hv e.symm)
 |emp=>trivial
 |own b C lt kept=>exact kept w w' row h hg (hne b rfl)
theorem SH.lt{w:World}{H:Hp}{O:List A2}(h:SH w H O){b:Nat}{o:Obj}(hb:H.at_ b=some o):b<w.heap.size:=(Array.getElem?_eq_some_iff.1 (h.OE b o hb)).1
theorem SH.grown{w w':World}{H:Hp}{O:List A2}(h:SH w H O)(hg:w.grownBy w' none):SH w' H O where
 OE b o hb:=by rw[hg.block b (h.lt hb) (by simp)];exact h.OE b o hb
 os:=hg.os.trans h.os
 output:=hg.output.trans h.output
 tape:=hg.tape.trans h.tape
 ok i r hr:=(h.ok i r hr).grown hg (by simp)
 NV:=h.NV
 nd:=h.nd
theorem SH.drew{w:World}{H:Hp}{O:List A2}(h:SH w H O):SH {w with drawn:=w.drawn+1} H O where
 OE:=h.OE
 os:=h.os
 output:=h.output
 tape:=h.tape
 ok i r hr:=by
  have:=h.ok i r hr
  cases r with
  |own b C lt kept=>exact kept w _ none this ⟨rfl,rfl,rfl,Nat.le_refl _,fun _ _ _=>rfl⟩ (by simp)
  |_=>exact this
 NV:=h.NV
 nd:=h.nd
theorem CD{α:Type}{x y:α}{l:List α}{i:Nat}(h:(x::l)[i]?=some y):(i=0∧y=x)∨∃j,i=j+1∧l[j]?=some y:=by
 cases i with
 |zero=>left;simp at h;exact⟨rfl,h.symm⟩
 |succ j=>right;exact⟨j,rfl,by simpa using h⟩
theorem SH.push{w w':World}{H:Hp}{O:List A2}(h:SH w H O)(hg:w.grownBy w' none){r:A2}(hr:r.ok w')(hnew:∀b,r.block=some b→w.heap.size≤b):SH w' H (r::O)where
 OE b o hb:=by rw[hg.block b (h.lt hb) (by simp)];exact h.OE b o hb
 os:=hg.os.trans h.os
 output:=hg.output.trans h.output
 tape:=hg.tape.trans h.tape
 ok i s hs:=by
  rcases CD hs with⟨rfl,rfl⟩|⟨j,rfl,hj⟩
  ·exact hr
  ·exact(h.ok j s hj).grown hg (by simp)
 NV i s b hs hb:=by
  rcases CD hs with⟨rfl,rfl⟩|⟨j,rfl,hj⟩
  ·cases he:H.at_ b with
   |none=>rfl
   |some o=>have:=h.lt he;have:=hnew b hb;omega
  ·exact h.NV j s b hj hb
 nd i j s s' b hi hj hb hb':=by
  rcases CD hi with⟨rfl,rfl⟩|⟨i',rfl,hi'⟩
  ·rcases CD hj with⟨rfl,rfl⟩|⟨j',rfl,hj'⟩
   ·rfl
   ·have:=(h.ok j' s' hj').lt hb';have:=hnew b hb;omega
  ·rcases CD hj with⟨rfl,rfl⟩|⟨j',rfl,hj'⟩
   ·have:=(h.ok i' s hi').lt hb;have:=hnew b hb';omega
   ·rw[h.nd i' j' s s' b hi' hj' hb hb']
theorem SH.alloc{w:World}{H:Hp}{O:List A2}(h:SH w H O)(o:Obj):SH (w.alloc o) H (.Az w.heap.size o::O):=
 h.push (World.grownBy_alloc w o none) (heap_alloc_new w o) (fun b hb=>by simp only[A2.block,Option.some.injEq]at hb;omega)
theorem SH.set{w w':World}{H:Hp}{O:List A2}(h:SH w H O){i:Nat}{r r':A2}(hi:O[i]?=some r)(hg:w.grownBy w' r.block)
  (hr:r'.ok w') (hb:∀b,r'.block=some b→r.block=some b∨w.heap.size≤b):SH w' H (O.set i r'):=by
 have hlen:i<O.length:=(List.getElem?_eq_some_iff.1 hi).1
 have key:∀j s,(O.set i r')[j]?=some s→(j=i∧s=r')∨(j≠i∧O[j]?=some s):=fun j s hs=>by
  rw[List.getElem?_set]at hs
  by_cases e:i=j
  ·subst e;simp[hlen]at hs;exact .inl ⟨rfl,hs.symm⟩
  ·simp[e]at hs;exact .inr ⟨fun x=>e x.symm,hs⟩
 have hnone:∀b,r'.block=some b→H.at_ b=none:=fun b hb'=>by
  rcases hb b hb' with hb'|hb'
  ·exact h.NV i r b hi hb'
  ·cases he:H.at_ b with
   |none=>rfl
   |some o=>have:=h.lt he;omega
 refine⟨fun b o hbo=>?_,hg.os.trans h.os,hg.output.trans h.output,hg.tape.trans h.tape,fun j s hs=>?_,fun j s b hs hsb=>?_,fun j k s s' b hs hs' hsb hsb'=>?_⟩
 ·rw[hg.block b (h.lt hbo) (fun e=>by rw[h.NV i r b hi e.symm]at hbo;cases hbo)]
  exact h.OE b o hbo
 ·rcases key j s hs with⟨rfl,rfl⟩|⟨hj,hs'⟩
  ·exact hr
  ·exact(h.ok j s hs').grown hg (fun b hb e=>hj (h.nd j i s r b hs' hi hb e))
 ·rcases key j s hs with⟨rfl,rfl⟩|⟨hj,hs'⟩
  ·exact hnone b hsb
  ·exact h.NV j s b hs' hsb
 ·rcases key j s hs with⟨rfl,rfl⟩|⟨hj,h1⟩
  ·rcases key k s' hs' with⟨rfl,rfl⟩|⟨hk,h2⟩
   ·rfl
   ·exfalso
    rcases hb b hsb with e|e
    ·exact hk (h.nd k j s' r b h2 hi hsb' e)
    ·have:=(h.ok k s' h2).lt hsb';omega
  ·rcases key k s' hs' with⟨rfl,rfl⟩|⟨hk,h2⟩
   ·exfalso
    rcases hb b hsb' with e|e
    ·exact hj (h.nd j k s r b h1 hi hsb e)
    ·have:=(h.ok j s h1).lt hsb;omega
   ·exact h.nd j k s s' b h1 h2 hsb hsb'
def Hp.put(H:Hp)(b:Nat)(o:Obj):Hp:= {H with at_:=fun c=>if c=b then some o else H.at_ c}
theorem SH.drop{w:World}{H:Hp}{O:List A2}(h:SH w H O)(i:Nat):SH w H (O.eraseIdx i)where
 OE:=h.OE
 os:=h.os
 output:=h.output
 tape:=h.tape
 ok j r hr:=by
  rw[List.getElem?_eraseIdx]at hr
  split at hr
  ·exact h.ok _ _ hr
  ·exact h.ok _ _ hr
 NV j r b hr hb:=by
  rw[List.getElem?_eraseIdx]at hr
  split at hr
  ·exact h.NV _ _ b hr hb
  ·exact h.NV _ _ b hr hb
 nd j k r r' b hr hr' hb hb':=by
  rw[List.getElem?_eraseIdx]at hr hr'
  split at hr<;>split at hr'
  ·exact h.nd _ _ _ _ b hr hr' hb hb'
  ·have:=h.nd _ _ _ _ b hr hr' hb hb';omega
  ·have:=h.nd _ _ _ _ b hr hr' hb hb';omega
  ·have:=h.nd _ _ _ _ b hr hr' hb hb';omega
theorem SH.U6{w:World}{H:Hp}{O:List A2}(h:SH w H O){i:Nat}{r:A2}(hi:O[i]?=some r){b:Nat}(hb:r.block=some b){o:Obj}(ho:w.heap[b]?=some o):
  H.le (H.put b o)∧SH w (H.put b o) (O.eraseIdx i):=by
 have hnone:=h.NV i r b hi hb
 have hd:=h.drop i
 refine⟨⟨fun c o' hc=>?_,rf,rf,rf⟩,⟨fun c o' hc=>?_,h.os,h.output,h.tape,hd.ok,fun j s c hs hc=>?_,hd.nd⟩⟩
 ·simp only[Hp.put]
  by_cases e:c=b
  ·subst e;rw[hnone]at hc;cases hc
  ·simp[e,hc]
 ·simp only[Hp.put]at hc
  by_cases e:c=b
  ·subst e;simp at hc;subst hc;exact ho
  ·simp[e]at hc;exact h.OE c o' hc
 ·simp only[Hp.put]
  have:c≠b:=fun e=>by
   subst e
   rw[List.getElem?_eraseIdx]at hs
   split at hs
   ·have:=h.nd _ _ _ _ c hs hi hc hb;omega
   ·have:=h.nd _ _ _ _ c hs hi hc hb;omega
  simp[this,hd.NV j s c hs hc]
theorem SH.pick{w:World}{H:Hp}{O O':List A2}(h:SH w H O)(f:Nat→Nat)(hf:∀i r,O'[i]?=some r→O[f i]?=some r)
  (hinj:∀i j,i<O'.length→j<O'.length→f i=f j→i=j):SH w H O' where
 OE:=h.OE
 os:=h.os
 output:=h.output
 tape:=h.tape
 ok i r hr:=h.ok _ _ (hf i r hr)
 NV i r b hr hb:=h.NV _ _ b (hf i r hr) hb
 nd i j r r' b hr hr' hb hb':=hinj i j (List.getElem?_eq_some_iff.1 hr).1 (List.getElem?_eq_some_iff.1 hr').1 (h.nd _ _ _ _ b (hf i r hr) (hf j r' hr') hb hb')
def At(Q:Exit→Act→World→Prop)(e:Exit)(n:Nat)(L:List (Nat×Value))(H:Hp)(O:List A2):Prop:=
 ∀a w,Fr a n L→SH w H O→Q e a w
def Wp(P:Program)(c:Code)(Q:Exit→Act→World→Prop)(n:Nat)(L:List (Nat×Value))(H:Hp)(O:List A2):Prop:=
 ∀a w,Fr a n L→SH w H O→c.wp P Q a w
def Aa(P:Program)(ops:Array Oper)(Q:Exit→Act→World→Prop)(rest:List Oper)(n:Nat)(L:List (Nat×Value))(H:Hp)(O:List A2):Prop:=
 ∀a w,Fr a n L→SH w H O→wpList P ops Q rest a w
section
variable {P : Program} {Q Q2 : Exit → Act → World → Prop} {n : Nat} {L L' : List (Nat × Value)} {H : Hp} {O : List A2}
theorem At.sub{e:Exit}(s:Sub L' L)(h:At Q e n L' H O):At Q e n L H O:=fun a w hf hs=>h a w (hf.sub s) hs
theorem Wp.sub{c:Code}(s:Sub L' L)(h:Wp P c Q n L' H O):Wp P c Q n L H O:=fun a w hf hs=>h a w (hf.sub s) hs
theorem At.Ae{y:Code}(h:Wp P y Q n L H O):At (Exit.then (y.wp P Q) Q2) .normal n L H O:=h
theorem At.Ao{nx:Act→World→Prop}{id:Nat}(h:At Q (.exit id) n L H O):At (Exit.then nx Q) (.exit id) n L H O:=h
theorem At.Au{nx:Act→World→Prop}(h:At Q .ret n L H O):At (Exit.then nx Q) .ret n L H O:=h
theorem At.AF{id:Nat}(h:At Q .normal n L H O):At (Exit.inBlock id Q) .normal n L H O:=h
theorem At.A9{id:Nat}(h:At Q .ret n L H O):At (Exit.inBlock id Q) .ret n L H O:=h
theorem At.AB{id:Nat}(h:At Q .normal n L H O):At (Exit.inBlock id Q) (.exit id) n L H O:=fun a w hf hs=>by
 simp only[Exit.inBlock,if_true];exact h a w hf hs
theorem At.L8{id id':Nat}(hne:Nat.beq id' id=false)(h:At Q (.exit id') n L H O):At (Exit.inBlock id Q) (.exit id') n L H O:=fun a w hf hs=>by
 have:id'≠id:=Nat.ne_of_beq_eq_false hne
 simp only[Exit.inBlock,this,if_false];exact h a w hf hs
theorem Wp.seq{x y:Code}(h:Wp P x (Exit.then (y.wp P Q) Q) n L H O):Wp P (.seq x y) Q n L H O:=fun a w hf hs=>wp_seq (h a w hf hs)
theorem Wp.skip(h:At Q .normal n L H O):Wp P .skip Q n L H O:=fun a w hf hs=>wp_skip (h a w hf hs)
theorem Wp.exit{id:Nat}(h:At Q (.exit id) n L H O):Wp P (.exit id) Q n L H O:=fun a w hf hs=>wp_exit (h a w hf hs)
theorem Wp.ret(h:At Q .ret n L H O):Wp P .ret Q n L H O:=fun a w hf hs=>wp_ret (h a w hf hs)
theorem Wp.label{l:Nat}(h:At Q .normal n L H O):Wp P (.label l) Q n L H O:=fun a w hf hs=>wp_label (h a w hf hs)
theorem Wp.block{id:Nat}{c:Code}(h:Wp P c (Exit.inBlock id Q) n L H O):Wp P (.block id c) Q n L H O:=fun a w hf hs=>wp_block (h a w hf hs)
theorem Wp.cond{c:Operand}{x y:Code}{b:Bool}(hv:ev L c=some (.bool b))(ht:b=true→Wp P x Q n L H O)(hf:b=false→Wp P y Q n L H O):Wp P (.cond c x y) Q n L H O:=
 fun a w hfr hs=>wp_cond_split (hfr.eval hv) (fun e=>ht e a w hfr hs) (fun e=>hf e a w hfr hs)
theorem Wp.EY{c:Operand}{x y:Code}(hv:ev L c=some (.bool true))(ht:Wp P x Q n L H O):Wp P (.cond c x y) Q n L H O:=
 fun a w hfr hs=>wp_cond_true (hfr.eval hv) (ht a w hfr hs)
theorem Wp.Hd{c:Operand}{x y:Code}(hv:ev L c=some (.bool false))(ht:Wp P y Q n L H O):Wp P (.cond c x y) Q n L H O:=
 fun a w hfr hs=>wp_cond_false (hfr.eval hv) (ht a w hfr hs)
theorem Wp.region{id:Nat}{l:List Oper}(h:Aa P l.toArray Q l n L H O):Wp P (.region id l.toArray false) Q n L H O:=
 fun a w hf hs=>wp_region_lit (h a w hf hs)
theorem NW{X:Type}{c:Code}(I:X→Act→World→Prop)(μ:X→Nat){x:X}{a:Act}{w:World}(h₀:I x a w)
  (round:∀x a w,I x a w→c.wp P (Exit.then (fun a' w'=> ∃x',I x' a' w'∧μ x'<μ x) Q) a w):(Code.loop c).wp P Q a w:=by
 intro b k cs
 have key:∀n x a w,μ x=n→I x a w→
   ∃e a' w',Q e a' w'∧Arrives P (lone (b.at a (.code c:: .inLoop c::k)) cs w) b k cs e a' w':=by
  intro n
  induction n using Nat.strongRecOn with
  |_ n ih=>
   intro x a w hn hI
   obtain⟨e,a₁,w₁,hq,harr⟩:=round x a w hI b (.inLoop c::k) cs
   cases e with
   |normal=>
    obtain⟨x₁,hI₁,hlt⟩:=hq
    obtain⟨e₂,a₂,w₂,hq₂,harr₂⟩:=ih (μ x₁) (hn▸hlt) x₁ a₁ w₁ rfl hI₁
    exact⟨e₂,a₂,w₂,hq₂, .of_steps (Steps.trans harr (.one step_inLoop)) harr₂⟩
   |exit id=>exact⟨_,a₁,w₁,hq, .pass (x:= .inLoop c) rfl (fun _ _=> .inl (by simp)) harr⟩
   |goto l=>exact⟨_,a₁,w₁,hq, .pass (x:= .inLoop c) rfl (fun _ _=> .inl (by simp)) harr⟩
   |ret=>exact⟨_,a₁,w₁,hq, .pass (x:= .inLoop c) rfl (fun _ _=> .inl (by simp)) harr⟩
   |panic ch=>exact⟨_,a₁,w₁,hq, .pass (x:= .inLoop c) rfl (fun _ _=> .inl (by simp)) harr⟩
   |outgrown=>exact⟨_,a₁,w₁,hq, .pass (x:= .inLoop c) rfl (fun _ _=> .inl (by simp)) harr⟩
 obtain⟨e,a',w',hq,harr⟩:=key _ x a w rfl h₀
 exact⟨e,a',w',hq, .of_steps (.one step_loop) harr⟩
def Next{X:Type}(n:Nat)(Lx:X→List (Nat×Value))(Ox:X→List A2)(I:X→Hp→Prop)(μ:X→Nat)(x:X)(H':Hp)(a:Act)(w:World):Prop:=
 ∃y:X×Hp,(H'.le y.2∧I y.1 y.2∧Fr a n (Lx y.1)∧SH w y.2 (Ox y.1))∧μ y.1<μ x
theorem Wp.loop{c:Code}{X:Type}(Lx:X→List (Nat×Value))(Ox:X→List A2)(I:X→Hp→Prop)(μ:X→Nat)(x₀:X)
  (hI:I x₀ H) (hL:Sub (Lx x₀) L) (hO:O=Ox x₀)
  (round:∀x H',H.le H'→I x H'→Wp P c (Exit.then (Next n Lx Ox I μ x H') Q) n (Lx x) H' (Ox x)):
  Wp P (.loop c) Q n L H O:=by
 intro a w hf hs
 subst hO
 refine NW (X:=X×Hp) (fun y a w=>H.le y.2∧I y.1 y.2∧Fr a n (Lx y.1)∧SH w y.2 (Ox y.1)) (fun y=>μ y.1) (x:=(x₀,H)) ⟨Hp.le.refl H,hI,hf.sub hL,hs⟩ ?_
 rintro⟨x,H'⟩ a w ⟨h1,h2,h3,h4⟩
 refine wp_mono (round x H' h1 h2 a w h3 h4) fun e a' w' q=>?_
 cases e with
 |normal=>
  obtain⟨y,⟨g1,g2,g3,g4⟩,hlt⟩:=q
  exact⟨y,⟨h1.trans g1,g2,g3,g4⟩,hlt⟩
 |_=>exact q
theorem At.next{X:Type}{Lx:X→List (Nat×Value)}{Ox:X→List A2}{I:X→Hp→Prop}{μ:X→Nat}{x:X}{H':Hp}(y:X)(hH:H'.le H)(hI:I y H)(hL:Sub (Lx y) L)(hO:O=Ox y)
  (hμ:μ y<μ x):At (Exit.then (Next n Lx Ox I μ x H') Q) .normal n L H O:=
 fun _ _ hf hs=>⟨(y,H),⟨hH,hI,hf.sub hL,hO▸hs⟩,hμ⟩
theorem Aa.nil{ops:Array Oper}(h:At Q .normal n L H O):Aa P ops Q [] n L H O:=h
def Ab(P:Program)(op:Op)(T:TypeId)(E:Operand→Option Value)(H:Hp)(O:List A2)(v:Value):Prop:=
 ∀(a:Act) (w:World) (o:Oper),o.op=op→o.type=T→(∀x u,E x=some u→a.eval x=u)→SH w H O→o.quietAt P a (fun w'=>SH w' H O) w v
theorem Oper.DF{o:Oper}{a:Act}{w:World}{C:World→Prop}{v:Value}{next:Act→World→Prop}{Q:Exit→Act→World→Prop}
  (hq:o.quietAt P a C w v) (hC:C w) (h:∀w',C w'→next (a.put o.dst v) w'):o.wp P a w next Q:=by
 unfold Oper.quietAt Oper.quietUpon at hq
 unfold Oper.wp
 split at hq<;>rename_i heq<;>(try rw[heq])
 ·obtain⟨rfl,rfl⟩:=hq
  exact h _ hC
 ·obtain⟨rfl,rfl⟩:=hq
  exact h _ hC
 ·obtain⟨rfl,hq⟩:=hq
  refine hq.mono ?_
  rintro e w' ⟨rfl,hw⟩
  exact h _ hw
 ·exact hq.elim
def Bc(P:Program)(op:Op)(T:TypeId)(E:Operand→Option Value)(H:Hp)(O:List A2)(R:Value→Hp→List A2→Prop):Prop:=
 ∀(a:Act) (w:World) (o:Oper) (next:Act→World→Prop) (Q:Exit→Act→World→Prop),o.op=op→o.type=T→(∀x u,E x=some u→a.eval x=u)→SH w H O→
  (∀v w' H' O',H.le H'→R v H' O'→SH w' H' O'→next (a.put o.dst v) w')→o.wp P a w next Q
theorem Aa.op{ops:Array Oper}{rest:List Oper}{d:Tmp}{op:Op}{T:TypeId}{pos:String}{af:Array Edge}{v:Value}
  (h:Ab P op T (ev L) H O v) (hd:Nat.blt d n=true) (k:Aa P ops Q rest n ((d,v)::L) H O):
  Aa P ops Q ({dst:=some d,op,type:=T,pos,after:=af,guard:=none} ::rest) n L H O:=fun a w hf hs=>
 wpList_plain rfl fun K hK=>Oper.DF (h a w _ rfl rfl (fun _ _ hx=>hf.eval hx) hs) hs fun w' hw'=>hK _ _ (k _ _ (hf.put hd v) hw')
theorem Aa.Fi{ops:Array Oper}{rest:List Oper}{d:Tmp}{op:Op}{T:TypeId}{pos:String}{af:Array Edge}{R:Value→Hp→List A2→Prop}
  (h:Bc P op T (ev L) H O R) (hd:Nat.blt d n=true) (k:∀v H' O',H.le H'→R v H' O'→Aa P ops Q rest n ((d,v)::L) H' O'):
  Aa P ops Q ({dst:=some d,op,type:=T,pos,after:=af,guard:=none} ::rest) n L H O:=fun a w hf hs=>
 wpList_plain rfl fun K hK=>h a w _ K Q rfl rfl (fun _ _ hx=>hf.eval hx) hs fun v w' H' O' hle hr hw'=>hK _ _ (k v H' O' hle hr _ _ (hf.put hd v) hw')
theorem Aa.U9{ops:Array Oper}{rest:List Oper}{op:Op}{T:TypeId}{pos:String}{af:Array Edge}{R:Value→Hp→List A2→Prop}
  (h:Bc P op T (ev L) H O R) (k:∀v H' O',H.le H'→R v H' O'→Aa P ops Q rest n L H' O'):
  Aa P ops Q ({dst:=none,op,type:=T,pos,after:=af,guard:=none} ::rest) n L H O:=fun a w hf hs=>
 wpList_plain rfl fun K hK=>h a w _ K Q rfl rfl (fun _ _ hx=>hf.eval hx) hs fun v w' H' O' hle hr hw'=>hK _ _ (k v H' O' hle hr _ _ hf hw')
def Bw(ops:Array Oper)(j:Nat):Option Tmp:=(ops[j]?).bind (·.dst)
theorem E0{ops:Array Oper}{a:Act}{j:Nat}{t:Tmp}{b:Bool}(hj:Bw ops j=some t)(hv:a.tmps.getD t undef= .bool b):yielded ops a.tmps j=some b:=by
 unfold Bw at hj
 unfold yielded
 rw[hj]
 have:a.tmps[t]?=some (.bool b):=by
  rw[Array.getD_eq_getD_getElem?]at hv
  cases h:a.tmps[t]? with
  |none=>rw[h]at hv;simp[undef]at hv
  |some u=>rw[h]at hv;simp at hv;rw[hv]
 simp[this]
theorem Aa.AQ{ops:Array Oper}{rest:List Oper}{d t:Tmp}{op:Op}{T:TypeId}{pos:String}{af:Array Edge}{v:Value}{j:Nat}{b:Bool}
  (hj:Bw ops j=some t) (hb:lk L t=some (.bool b))
  (h:Ab P op T (ev L) H O v) (hd:Nat.blt d n=true) (k:Aa P ops Q rest n ((d,v)::L) H O):
  Aa P ops Q ({dst:=some d,op,type:=T,pos,after:=af,guard:=some (j,b)} ::rest) n L H O:=fun a w hf hs=>
 wpList_step fun K hK=>by
  rw[if_pos (by simp[Region.wanted,E0 hj (hf.get t _ hb)])]
  exact Oper.DF (h a w _ rf rf (fun _ _ hx=>hf.eval hx) hs) hs fun w' hw'=>hK _ _ (k _ _ (hf.put hd v) hw')
theorem Aa.Ak{ops:Array Oper}{rest:List Oper}{d t:Tmp}{op:Op}{T:TypeId}{pos:String}{af:Array Edge}{j:Nat}{b c:Bool}
  (hj:Bw ops j=some t) (hb:lk L t=some (.bool c)) (hne:(c==b)=false) (hd:Nat.blt d n=true) (k:Aa P ops Q rest n ((d,undef)::L) H O):
  Aa P ops Q ({dst:=some d,op,type:=T,pos,after:=af,guard:=some (j,b)} ::rest) n L H O:=fun a w hf hs=>
 wpList_step fun K hK=>by
  rw[if_neg (by simp only[Region.wanted,E0 hj (hf.get t _ hb)];simpa using hne)]
  exact hK _ _ (k _ _ (hf.put hd undef) hs)
end
end Go.GK
namespace Go.GK
abbrev SP:=Hp→Value→Prop
def JS(G:Hp→Hp→Prop)(S:SP):Prop:= ∀H H' v,G H H'→S H v→S H' v
def names(ops:Array Oper)(o:Oper):List Tmp:=o.dst.toList++o.looksAt ops
def meets(ops:Array Oper)(x y:Oper):Bool:=
 (match x.dst with|some d=>(names ops y).any (Nat.beq d)|none=>false)||(match y.dst with|some d=>(names ops x).any (Nat.beq d)|none=>false)
def IP:Nat→List Oper→Bool
 |_,[]=>true
 |i,o::os=>(o.after.all fun e=> !Region.binds .any e||Nat.blt e.on i)&&IP (i+1) os
def KM(o:Oper)(i:Nat):Bool:=o.after.any fun e=>Region.binds .any e&&Nat.beq e.on i
def MN(ops:Array Oper):Nat→Oper→Nat→Bool
 |0,o,i=>KM o i
 |f+1,o,i=>KM o i||o.after.any fun e=>Region.binds .any e&&((ops[e.on]?).map fun x=>MN ops f x i).getD false
def Mi(ops:Array Oper)(k j:Nat)(o:Oper):Nat→List Oper→Bool
 |_,[]=>true
 |i,x::xs=>(Nat.ble j i||((!(meets ops x o)&&Nat.blt j k)||MN ops 8 o i))&&Mi ops k j o (i+1) xs
def VR(l:List Oper)(ops:Array Oper)(k:Nat):Nat→List Oper→Bool
 |_,[]=>true
 |j,o::os=>Mi ops k j o 0 l&&VR l ops k (j+1) os
def MA(l:List Oper)(k:Nat):Bool:=IP 0 l&&VR l l.toArray k 0 l
theorem I':∀ {l:List Oper} {i:Nat},IP i l=true→∀(j:Nat) (o:Oper),l[j]?=some o→∀e∈o.after,Region.binds .any e=true→e.on<i+j
 | [],_,_,j,o,h=>by simp at h
 |x::xs,i,hb,j,o,h=>by
  simp only[IP,Bool.and_eq_true]at hb
  cases j with
  |zero=>
   simp at h;subst h
   intro e he hbi
   have:=(Array.all_eq_true_iff_forall_mem.1 hb.1) e he
   simp[hbi]at this
   omega
  |succ j=>
   intro e he hbi
   have:=I' hb.2 j o (by simpa using h) e he hbi
   omega
theorem Mz{ops:Array Oper}{k j:Nat}{o:Oper} :∀ {l:List Oper} {i:Nat},Mi ops k j o i l=true→∀(a:Nat) (x:Oper),l[a]?=some x→i+a<j→
  (meets ops x o=true∨k≤j)→MN ops 8 o (i+a)=true
 | [],_,_,a,x,h,_,_=>by simp at h
 |y::ys,i,hb,a,x,h,hlt,hm=>by
  simp only[Mi,Bool.and_eq_true]at hb
  cases a with
  |zero=>
   simp at h;subst h
   have h1:=hb.1
   simp at h1
   rcases h1 with h1|h1
   ·omega
   ·rcases h1 with h1|h1
    ·rcases hm with hm|hm
     ·rw[hm]at h1;simp at h1
     ·omega
    ·exact h1
  |succ a=>
   have:=Mz hb.2 a x (by simpa using h) (by omega) hm
   rwa [show i+1+a=i+(a+1) by omega]at this
theorem MZ{l0:List Oper}{ops:Array Oper}{k:Nat} :∀ {l:List Oper} {i:Nat},VR l0 ops k i l=true→∀(j:Nat) (o:Oper),l[j]?=some o→Mi ops k (i+j) o 0 l0=true
 | [],_,_,j,o,h=>by simp at h
 |y::ys,i,hb,j,o,h=>by
  simp only[VR,Bool.and_eq_true]at hb
  cases j with
  |zero=>simp at h;subst h;exact hb.1
  |succ j=>
   have:=MZ hb.2 j o (by simpa using h)
   rwa [show i+1+j=i+(j+1) by omega]at this
theorem JF{o:Oper}{i:Nat}(h:KM o i=true):∃e∈o.after,Region.binds .any e=true∧e.on=i:=by
 simp only[KM]at h
 obtain⟨c,hc,hb⟩:=Array.any_eq_true.1 h
 simp only[Bool.and_eq_true]at hb
 exact⟨o.after[c],Array.getElem_mem hc,hb.1,Nat.eq_of_beq_eq_true hb.2⟩
theorem I6{l:List Oper}{p:Nat→Bool}(hcl:∀(j:Nat) (o:Oper),l[j]?=some o→p j=true→∀e∈o.after,Region.binds .any e=true→p e.on=true){i:Nat} :
  ∀(f:Nat) (o:Oper),MN l.toArray f o i=true→(∀e∈o.after,Region.binds .any e=true→p e.on=true)→p i=true
 |0,o,h,hd=>by
  obtain⟨e,he,hb,hon⟩:=JF h
  rw[←hon];exact hd e he hb
 |f+1,o,h,hd=>by
  simp only[MN,Bool.or_eq_true]at h
  rcases h with h|h
  ·obtain⟨e,he,hb,hon⟩:=JF h
   rw[←hon];exact hd e he hb
  ·obtain⟨c,hc,hb⟩:=Array.any_eq_true.1 h
   simp only[Bool.and_eq_true]at hb
   obtain⟨hb1,hb2⟩:=hb
   have hp:=hd _ (Array.getElem_mem hc) hb1
   cases hx:l[(o.after[c]).on]? with
   |none=>simp[hx]at hb2
   |some x=>
    simp[hx]at hb2
    exact I6 hcl f x hb2 (hcl _ x hx hp)
theorem Oi{l:List Oper}{k:Nat}(h:MA l k=true){i j:Nat}{x o:Oper}(hi:l[i]?=some x)(hj:l[j]?=some o)(hlt:i<j)(hm:meets l.toArray x o=true∨k≤j):
  MN l.toArray 8 o i=true:=by
 simp only[MA,Bool.and_eq_true]at h
 have h1:=MZ h.2 j o hj
 have h2:=Mz h1 i x hi (by omega) (by simpa using hm)
 simpa only[Nat.zero_add]using h2
def cur(l:List Oper)(Φ:Nat→SP)(S:Nat→SP)(listed:Nat→Bool)(t:Nat):Nat→SP
 |0=>Φ t
 |i+1=>if listed i=true∧((l[i]?).bind (·.dst))=some t then S i else cur l Φ S listed t i
theorem MQ{G:Hp→Hp→Prop}{l:List Oper}{Φ S:Nat→SP}{listed:Nat→Bool}{t:Nat}(hΦ:∀t,JS G (Φ t))(hS:∀i,JS G (S i)):∀i,JS G (cur l Φ S listed t i)
 |0=>hΦ t
 |i+1=>by
  unfold cur
  split
  ·exact hS i
  ·exact MQ hΦ hS i
theorem Ix{l:List Oper}{Φ S:Nat→SP}{p q:Nat→Bool}{t:Nat} :∀i,(∀j,j<i→((l[j]?).bind (·.dst))=some t→p j=q j)→cur l Φ S p t i=cur l Φ S q t i
 |0,_=>rfl
 |i+1,h=>by
  unfold cur
  rw[Ix i fun j hj ht=>h j (by omega) ht]
  by_cases ht:((l[i]?).bind (·.dst))=some t
  ·rw[h i (by omega) ht]
  ·simp[ht]
theorem KU {l : List Oper} {Φ S : Nat → SP} {p : Nat → Bool} {t : Nat} {i : Nat} : ∀ k, i ≤ k → (∀ j, i ≤ j → j < k → ((l[j]?).bind (·.dst)) = some t → p j = false) → cur l Φ S p t k = cur l Φ S p t i
  | 0, h, _ => by have : i = 0 := by omega
                  subst this; rfl
  | k + 1, h, hp => by
    by_cases e : i = k + 1
    · subst e; rfl
    · have hu : cur l Φ S p t (k + 1) = if p k = true ∧ ((l[k]?).bind (·.dst)) = some t then S k else cur l Φ S p t k := rfl
      rw [hu, if_neg (fun ⟨h1, h2⟩ => by have := hp k (by omega) (by omega) h2; rw [this] at h1; cases h1)]
      exact KU k (by omega) fun j h1 h2 h3 => hp j h1 (by omega) h3
section
variable {P : Program} {Q : Exit → Act → World → Prop}
def Q'(P:Program)(G:Hp→Hp→Prop)(ops:Array Oper)(H:Hp)(O:List A2)(n:Nat)(o:Oper)(Φ:Nat→SP)(S:SP):Prop:=
 JS G S∧(∀d,o.dst=some d→d<n)∧∀(H':Hp) (a:Act) (w:World),G H H'→SH w H' O→a.defers=[]→a.tmps.size=n→(∀t∈o.looksAt ops,Φ t H' (a.tmps.getD t undef))→
  ∀(K:Act→World→Prop) (Q:Exit→Act→World→Prop),(∀v w' H'',G H' H''→SH w' H'' O→(o.dst.isSome=true→S H'' v)→K (a.put o.dst v) w')→
   if Region.wanted o (yielded ops a.tmps)then o.wp P a w K Q else K (a.put o.dst undef) w
structure Wr(G:Hp→Hp→Prop)(l:List Oper)(Φ S:Nat→SP)(H:Hp)(O:List A2)(n k:Nat)(listed:Nat→Bool)(a:Act)(w:World):Prop where
 ex:∃H',G H H'∧SH w H' O∧a.defers=[]∧a.tmps.size=n∧∀t,cur l Φ S listed t k H' (a.tmps.getD t undef)
theorem Ks{a:Act}{d:Option Tmp}{v:Value}{t:Nat}(h:d≠some t):(a.put d v).tmps.getD t undef=a.tmps.getD t undef:=by
 cases d with
 |none=>rfl
 |some d=>
  have:d≠t:=fun e=>h (by rw[e])
  simp[Act.put,Array.getElem?_setIfInBounds_ne this]
theorem Kt{a:Act}{d:Tmp}{v:Value}(h:d<a.tmps.size):(a.put (some d) v).tmps.getD d undef=v:=by
 simp[Act.put,h]
theorem Dz{ops:Array Oper}{o:Oper}{t:Tmp}(h:t∈o.looksAt ops):(names ops o).any (Nat.beq t)=true:=by
 simp only[names,List.any_append,Bool.or_eq_true]
 exact .inr (List.any_eq_true.2 ⟨t,h,by simp⟩)
theorem G8{ops:Array Oper}{o:Oper}{t:Tmp}(h:o.dst=some t):(names ops o).any (Nat.beq t)=true:=by
 simp[names,h]
inductive VZ(P:Program)(G:Hp→Hp→Prop)(l:List Oper)(Q:Exit→Act→World→Prop)(Φ S:Nat→SP)(H:Hp)(O:List A2)(n k:Nat)(p:Nat→Bool)(a:Act)(w:World):Prop where
 |head (h1:∀t,k≤t→p t=false) (h2:Wr G l Φ S H O n k p a w)
 |tail (j:Nat) (hj:k≤j) (hp:∀i,i<l.length→p i=decide (i<j)) (hw:wpList P l.toArray Q (l.drop j) a w)
def Ia(p:Nat→Bool):Nat→Nat
 |0=>0
 |m+1=>Ia p m+if p m then 0 else 1
theorem LW{p:Nat→Bool} :∀ {m:Nat},Ia p m=0→∀i,i<m→p i=true
 |0,_,i,h=>by omega
 |m+1,hc,i,h=>by
  simp only[Ia]at hc
  by_cases e:i=m
  ·subst e
   cases hp:p i with
   |true=>rfl
   |false=>rw[hp]at hc;simp at hc
  ·exact LW (p:=p) (m:=m) (by omega) i (by omega)
theorem OV{p q:Nat→Bool} :∀ {m:Nat},(∀i,i<m→p i=q i)→Ia p m=Ia q m
 |0,_=>rfl
 |m+1,h=>by
  simp only[Ia]
  rw[h m (by omega),OV fun i hi=>h i (by omega)]
theorem NH{p q:Nat→Bool}{i:Nat} :∀ {m:Nat},i<m→p i=false→q i=true→(∀j,j≠i→q j=p j)→Ia p m=Ia q m+1
 |0,h,_,_,_=>by omega
 |m+1,h,hp,hq,hj=>by
  simp only[Ia]
  by_cases e:i=m
  ·subst e
   rw[hp,hq,OV (p:=p) (q:=q) fun j hj'=>(hj j (by omega)).symm]
   simp
  ·rw[NH (m:=m) (by omega) hp hq hj,hj m (fun x=>e x.symm)]
   omega
theorem R9{G:Hp→Hp→Prop}(htrans:∀A B C,G A B→G B C→G A C){l:List Oper}{k n:Nat}{Φ S:Nat→SP}{H:Hp}{O:List A2}(hk:k≤l.length)(hOK:MA l k=true)
  (hΦ:∀t,JS G (Φ t)) (hS0:∀i,JS G (S i))
  (hS:∀i o,i<k→l[i]?=some o→Q' P G l.toArray H O n o (fun t=>cur l Φ S (fun _=>true) t i) (S i))
  (fin:∀a w H',G H H'→SH w H' O→a.defers=[]→a.tmps.size=n→(∀t,cur l Φ S (fun _=>true) t k H' (a.tmps.getD t undef))→wpList P l.toArray Q (l.drop k) a w):
  ∀(fuel:Nat) (listed:Array Bool) (a:Act) (w:World),listed.size=l.length→
   (∀(j:Nat) (o:Oper),l[j]?=some o→listed.getD j false=true→∀e∈o.after,Region.binds .any e=true→listed.getD e.on false=true)→
   Ia (fun i=>listed.getD i false) l.length=fuel→
   VZ P G l Q Φ S H O n k (fun i=>listed.getD i false) a w→
   wpAny P .any l.toArray Q fuel listed a w:=by
 have hback:=by simp only[MA,Bool.and_eq_true]at hOK;exact I' hOK.1
 have toTail:∀(listed:Array Bool) a w,VZ P G l Q Φ S H O n k (fun i=>listed.getD i false) a w→(∀i,i<k→listed.getD i false=true)→
   ∃j,k≤j∧(∀i,i<l.length→listed.getD i false=decide (i<j))∧wpList P l.toArray Q (l.drop j) a w:=by
  intro listed a w hJ hall
  cases hJ with
  |tail j hj hp hw=>exact⟨j,hj,hp,hw⟩
  |head h1 h2=>
   obtain⟨H',g1,g2,g3,g4,g5⟩:=h2.ex
   refine⟨k,Nat.le_refl _,fun i _=>?_,fin a w H' g1 g2 g3 g4 fun t=>?_⟩
   ·by_cases hik:i<k
    ·simp only[hik,decide_true];exact hall i hik
    ·simp only[hik,decide_false];exact h1 i (by omega)
   ·rw[←Ix k fun j hj _=>(hall j hj)];exact g5 t
 have allListed:∀(listed:Array Bool),listed.size=l.length→Region.ready .any l.toArray listed=[]→∀i,i<l.length→listed.getD i false=true:=by
  intro listed hsz hr i
  induction i using Nat.strongRecOn with
  |_ i ih=>
   intro hi
   cases hl:listed.getD i false with
   |true=>rfl
   |false=>
    exfalso
    have hmem:i∈Region.ready .any l.toArray listed:=mem_ready.2 ⟨getD_in (by rw[hsz];exact hi) hl,l[i],by simp[hi],fun e he hb=>by
     have:=hback i l[i] (by simp[hi]) e he hb
     exact ih e.on (by omega) (by omega)⟩
    rw[hr]at hmem;cases hmem
 have finish:∀(listed:Array Bool) a w,listed.size=l.length→VZ P G l Q Φ S H O n k (fun i=>listed.getD i false) a w→Region.ready .any l.toArray listed=[]→Q .normal a w:=by
  intro listed a w hsz hJ hr
  have hall:=allListed listed hsz hr
  obtain⟨j,hkj,hp,hw⟩:=toTail listed a w hJ fun i hi=>hall i (by omega)
  have hj:l.length≤j:=by
   rcases Nat.lt_or_ge j l.length with h|h
   ·have h1:=hp j h;rw[hall j h]at h1;simp at h1
   ·exact h
  rw[List.drop_of_length_le hj]at hw
  exact hw
 intro fuel
 induction fuel with
 |zero=>
  intro listed a w hsz _ hcount hJ
  have hall:=LW hcount
  have hr:Region.ready .any l.toArray listed=[]:=by
   cases hrr:Region.ready .any l.toArray listed with
   |nil=>rfl
   |cons i rs=>
    exfalso
    have hmem:i∈Region.ready .any l.toArray listed:=by rw[hrr];simp
    obtain⟨hun,oi,hoi,_⟩:=mem_ready.1 hmem
    have hlt:i<l.length:=by simpa using(Array.getElem?_eq_some_iff.1 hoi).1
    have h2:listed.getD i false=true:=hall i hlt
    rw[getD_both hun]at h2;cases h2
  exact⟨hr,finish listed a w hsz hJ hr⟩
 |succ fuel ih=>
  intro listed a w hsz hcl hcount hJ
  refine⟨finish listed a w hsz hJ,fun i hi=>?_⟩
  obtain⟨hun,o,hoi,hdeps⟩:=mem_ready.1 hi
  have hli:l[i]?=some o:=by simpa using hoi
  have hlt:i<l.length:=(List.getElem?_eq_some_iff.1 hli).1
  have hun':=getD_both hun
  have hsz':(listed.setIfInBounds i true).size=l.length:=by simp[hsz]
  have hgi:(listed.setIfInBounds i true).getD i false=true:=by simp[hsz,hlt]
  have hgo:∀j,j≠i→(listed.setIfInBounds i true).getD j false=listed.getD j false:=fun j hj=>getD_set_ne false (Ne.symm hj)
  have hcl':∀(j:Nat) (o:Oper),l[j]?=some o→(listed.setIfInBounds i true).getD j false=true→∀e∈o.after,Region.binds .any e=true→(listed.setIfInBounds i true).getD e.on false=true:=by
   intro j oj hj hl e he hb
   by_cases hji:j=i
   ·subst hji
    have:oj=o:=Option.some.inj (hj.symm.trans hli)
    subst this
    exact getD_set_true (hdeps e he hb)
   ·rw[hgo j hji]at hl
    exact getD_set_true (hcl j oj hj hl e he hb)
  have hcount':Ia (fun j=>(listed.setIfInBounds i true).getD j false) l.length=fuel:=by
   have:=NH (p:=fun j=>listed.getD j false) (q:=fun j=>(listed.setIfInBounds i true).getD j false) hlt hun' hgi hgo
   omega
  have next:∀a' w',VZ P G l Q Φ S H O n k (fun j=>(listed.setIfInBounds i true).getD j false) a' w'→wpAny P .any l.toArray Q fuel (listed.setIfInBounds i true) a' w':=
   fun a' w' hJ'=>ih _ a' w' hsz' hcl' hcount' hJ'
  have hwp:∀(h:if Region.wanted o (yielded l.toArray a.tmps)then o.wp P a w (fun a' w'=>VZ P G l Q Φ S H O n k (fun j=>(listed.setIfInBounds i true).getD j false) a' w') Q∨(o.asks P a w∧LetsOut Q)
    else VZ P G l Q Φ S H O n k (fun j=>(listed.setIfInBounds i true).getD j false) (a.put o.dst undef) w),
    wpOp P l.toArray Q i (wpAny P .any l.toArray Q fuel (listed.setIfInBounds i true)) a w:=by
   intro h
   refine wpOp_mono next ?_
   unfold wpOp
   simp only[hoi]
   exact h
  apply hwp
  have later:∀(j:Nat) (oj:Oper),l[j]?=some oj→i<j→(meets l.toArray o oj=true∨k≤j)→listed.getD j false=false:=by
   intro j oj hj hij hm
   cases hl:listed.getD j false with
   |false=>rfl
   |true=>
    have:=I6 (p:=fun i=>listed.getD i false) hcl 8 oj (Oi hOK hli hj hij hm) (hcl j oj hj hl)
    rw[hun']at this;cases this
  have earlier:∀(j:Nat) (oj:Oper),l[j]?=some oj→j<i→(meets l.toArray oj o=true∨k≤i)→listed.getD j false=true:=by
   intro j oj hj hij hm
   exact I6 (p:=fun i=>listed.getD i false) hcl 8 o (Oi hOK hj hli hij hm) hdeps
  by_cases hall:∀j,j<k→listed.getD j false=true
  ·
   obtain⟨j,hkj,hp,hw⟩:=toTail listed a w hJ hall
   have hij:i=j:=by
    have h1:=hp i hlt
    rw[hun']at h1
    have h2:j≤i:=by simpa using h1.symm
    rcases Nat.lt_or_ge j i with h3|h3
    ·exfalso
     have hjlt:j<l.length:=by omega
     have h4:=earlier j l[j] (by simp[hjlt]) h3 (.inr (by omega))
     rw[hp j hjlt]at h4;simp at h4
    ·omega
   subst hij
   have hdrop:l.drop i=o::l.drop (i+1):=by
    have:o=l[i]:=by rw[List.getElem?_eq_getElem hlt]at hli;exact(Option.some.inj hli).symm
    rw[this];exact List.drop_eq_getElem_cons hlt
   rw[hdrop]at hw
   have hnext:∀a' w',wpList P l.toArray Q (l.drop (i+1)) a' w'→VZ P G l Q Φ S H O n k (fun j=>(listed.setIfInBounds i true).getD j false) a' w':=fun a' w' h=>
    .tail (i+1) (by omega) (fun j hj=>by
     by_cases hji:j=i
     ·subst hji;rw[hgi];simp
     ·rw[hgo j hji,hp j hj]
      have:(j<i)↔(j<i+1):=by omega
      simp only[this]) h
   unfold wpList at hw
   split
   ·rename_i hwant
    rw[if_pos hwant]at hw
    exact hw.imp (Oper.wp_mono hnext) id
   ·rename_i hwant
    rw[if_neg hwant]at hw
    exact hnext _ _ hw
  ·
   have hJ2:(∀t,k≤t→listed.getD t false=false)∧Wr G l Φ S H O n k (fun i=>listed.getD i false) a w:=by
    cases hJ with
    |head h1 h2=>exact⟨h1,h2⟩
    |tail j hj hp hw=>
     exact absurd (fun t ht=>by rw[hp t (by omega)];simp;omega) hall
   obtain⟨h1,⟨H',g1,g2,g3,g4,g5⟩⟩:=hJ2
   have hik:i<k:=by
    rcases Nat.lt_or_ge i k with h|h
    ·exact h
    ·exact absurd (fun j hj=>earlier j l[j] (by simp) (by omega) (.inr h)) hall
   obtain⟨hgrow,hd,hloc⟩:=hS i o hik hli
   have hlooks:∀t∈o.looksAt l.toArray,cur l Φ S (fun _=>true) t i H' (a.tmps.getD t undef):=by
    intro t ht
    have:=g5 t
    rw[KU (i:=i) k (by omega) (fun j hij hjk hdst=>by
     by_cases hji:j=i
     ·subst hji;exact hun'
     ·cases hlj:l[j]? with
      |none=>simp[hlj]at hdst
      |some oj=>
       refine later j oj hlj (by omega) (.inl ?_)
       simp[hlj]at hdst
       simp only[meets,hdst,Dz ht,Bool.or_true])]at this
    rw[Ix i (fun j hj hdst=>by
     cases hlj:l[j]? with
     |none=>simp[hlj]at hdst
     |some oj=>
      refine earlier j oj hlj hj (.inl ?_)
      simp[hlj]at hdst
      simp only[meets,hdst,Dz ht,Bool.true_or])]at this
    exact this
   have hK:∀v w' H'',G H' H''→SH w' H'' O→(o.dst.isSome=true→S i H'' v)→VZ P G l Q Φ S H O n k (fun j=>(listed.setIfInBounds i true).getD j false) (a.put o.dst v) w':=by
    intro v w' H'' hle hs hv
    refine .head (fun t ht=>?_) ⟨H'',htrans _ _ _ g1 hle,hs,?_,?_,fun t=>?_⟩
    ·show(listed.setIfInBounds i true).getD t false=false
     rw[hgo t (by omega)];exact h1 t ht
    ·cases o.dst<;>exact g3
    ·cases o.dst<;>simp[Act.put,g4]
    ·by_cases hdt:o.dst=some t
     ·rw[hdt,Kt (by rw[g4];exact hd t hdt)]
      rw[KU (i:=i+1) k (by omega) (fun j hij hjk hdst=>by
       show(listed.setIfInBounds i true).getD j false=false
       rw[hgo j (by omega)]
       cases hlj:l[j]? with
       |none=>simp[hlj]at hdst
       |some oj=>
        refine later j oj hlj (by omega) (.inl ?_)
        simp[hlj]at hdst
        simp only[meets,hdt,G8 hdst,Bool.true_or])]
      unfold cur
      rw[if_pos ⟨hgi,by simp[hli,hdt]⟩]
      exact hv (by simp[hdt])
     ·rw[Ks hdt]
      rw[Ix (q:=fun j=>listed.getD j false) k (fun j hj hdst=>by
       by_cases hji:j=i
       ·subst hji;simp[hli]at hdst;exact absurd hdst hdt
       ·exact hgo j hji)]
      exact MQ hΦ hS0 k _ _ _ hle (g5 t)
   have:=hloc H' a w g1 g2 g3 g4 hlooks (fun a' w'=>VZ P G l Q Φ S H O n k (fun j=>(listed.setIfInBounds i true).getD j false) a' w') Q hK
   split
   ·rename_i hw;rw[if_pos hw]at this;exact .inl this
   ·rename_i hw;rw[if_neg hw]at this;exact this
end
end Go.GK
namespace Go.GK
def Loc(P:Program)(G:Hp→Hp→Prop)(ops:Array Oper)(H:Hp)(O:List A2)(n:Nat)(Z:Act→World→Prop):List Oper→(Nat→SP)→Prop
 | [],Φ=> ∀a w H',G H H'→SH w H' O→a.defers=[]→a.tmps.size=n→(∀t,Φ t H' (a.tmps.getD t undef))→Z a w
 |o::os,Φ=> ∃S,Q' P G ops H O n o Φ S∧Loc P G ops H O n Z os (match o.dst with|some d=>fun t=>if t=d then S else Φ t|none=>Φ)
theorem LV{o:Oper}{os:List Oper}{Φ S:Nat→SP}{S0:SP}{t:Nat} :∀i,
  cur (o::os) Φ (fun|0=>S0|i+1=>S i) (fun _=>true) t (i+1)=cur os (match o.dst with|some d=>fun t=>if t=d then S0 else Φ t|none=>Φ) S (fun _=>true) t i
 |0=>by
  simp only[cur,true_and,List.getElem?_cons_zero,Option.bind_some]
  cases h:o.dst with
  |none=>simp
  |some d=>
   by_cases e:t=d
   ·subst e;simp
   ·have:¬d=t:=fun x=>e x.symm
    simp[e,this]
 |i+1=>by
  have hu:cur (o::os) Φ (fun|0=>S0|i+1=>S i) (fun _=>true) t (i+1+1)=if True∧(((o::os)[i+1]?).bind (·.dst))=some t then S i else cur (o::os) Φ (fun|0=>S0|i+1=>S i) (fun _=>true) t (i+1):=by simp[cur]
  have hv:∀Ψ,cur os Ψ S (fun _=>true) t (i+1)=if True∧((os[i]?).bind (·.dst))=some t then S i else cur os Ψ S (fun _=>true) t i:=by simp[cur]
  rw[hu,hv,LV i]
  simp
theorem Loc.get{P:Program}{G:Hp→Hp→Prop}{ops:Array Oper}{H:Hp}{O:List A2}{n:Nat}{Z:Act→World→Prop} :∀ {os:List Oper} {Φ:Nat→SP},Loc P G ops H O n Z os Φ→
  ∃S:Nat→SP,(∀i,JS G (S i))∧(∀i o,os[i]?=some o→Q' P G ops H O n o (fun t=>cur os Φ S (fun _=>true) t i) (S i))∧
   (∀a w H',G H H'→SH w H' O→a.defers=[]→a.tmps.size=n→(∀t,cur os Φ S (fun _=>true) t os.length H' (a.tmps.getD t undef))→Z a w)
 | [],Φ,h=>⟨fun _ _ _=>True,fun _ _ _ _ _ _=>trivial,fun i o hi=>by simp at hi,h⟩
 |o::os,Φ,⟨S0,h0,h⟩=>by
  obtain⟨S,hg,hl,hf⟩:=Loc.get h
  refine⟨fun|0=>S0|i+1=>S i,fun i=>?_,fun i o' hi=>?_,fun a w H' g1 g2 g3 g4 g5=>hf a w H' g1 g2 g3 g4 fun t=>?_⟩
  ·cases i with
   |zero=>exact h0.1
   |succ i=>exact hg i
  ·cases i with
   |zero=>simp at hi;subst hi;exact h0
   |succ i=>
    have:=hl i o' (by simpa using hi)
    simp only[LV]
    exact this
  ·have:=g5 t
   rw[List.length_cons,LV]at this
   exact this
theorem UF {P : Program} {G : Hp → Hp → Prop} (hrefl : ∀ H, G H H) (htrans : ∀ A B C, G A B → G B C → G A C) {Q : Exit → Act → World → Prop} {id : Nat} {l : List Oper} (k : Nat) {n : Nat} {Φ : Nat → SP} {H : Hp} {O : List A2}
    (hm : P.follows .mixedOrders = true) (hk : Nat.ble k l.length = true) (hOK : MA l k = true) (hΦ : ∀ t, JS G (Φ t))
    (h : Loc P G l.toArray H O n (wpList P l.toArray Q (l.drop k)) (l.take k) Φ) {a : Act} {w : World} (hs : SH w H O) (hd : a.defers = []) (hsz : a.tmps.size = n) (ha : ∀ t, Φ t H (a.tmps.getD t undef)) :
    (Code.region id l.toArray true).wp P Q a w := by
  have hk' : k ≤ l.length := by simpa using hk
  obtain ⟨S, hg, hl, hf⟩ := h.get
  have hlen : (l.take k).length = k := by simp; omega
  have hcur : ∀ t i, i ≤ k → cur (l.take k) Φ S (fun _ => true) t i = cur l Φ S (fun _ => true) t i := by
    intro t i
    induction i with
    | zero => intro _; rfl
    | succ i ih =>
      intro hi
      have : (l.take k)[i]? = l[i]? := by rw [List.getElem?_take]; simp; omega
      simp only [cur, this, ih (by omega)]
  refine wp_region_any hm ?_
  have := R9 (P := P) (Q := Q) htrans (l := l) (k := k) (n := n) (Φ := Φ) (S := S) (H := H) (O := O) hk' hOK hΦ hg (fun i o hi hio => by
      have := hl i o (by rw [List.getElem?_take]; simp [hi, hio])
      have he : (fun t => cur (l.take k) Φ S (fun _ => true) t i) = fun t => cur l Φ S (fun _ => true) t i := funext fun t => hcur t i (by omega)
      rwa [he] at this)
    (fun a w H' g1 g2 g3 g4 g5 => hf a w H' g1 g2 g3 g4 fun t => by rw [hlen, hcur t k (Nat.le_refl _)]; exact g5 t)
    l.length (Array.replicate l.length false) a { w with drawn := w.drawn + 1 } (by simp) (fun j o _ hj => by rw [getD_replicate_false] at hj; cases hj)
    (by
      have : ∀ m, Ia (fun i => (Array.replicate l.length false).getD i false) m = m := by
        intro m
        induction m with
        | zero => rfl
        | succ m ih =>
          have hu : ∀ p : Nat → Bool, Ia p (m + 1) = Ia p m + if p m then 0 else 1 := fun _ => rfl
          rw [hu, ih, getD_replicate_false]
          rfl
      exact this _)
    (.head (fun t _ => getD_replicate_false _ _) ⟨H, hrefl H, hs.drew, hd, hsz, fun t => by
      rw [KU (i := 0) k (Nat.zero_le _) (fun j _ _ _ => getD_replicate_false _ _)]
      exact ha t⟩)
  simpa using this
inductive SV where
 |is (v:Value)
 |sat (p:SP)
def SV.sp:SV→SP
 | .is v=>fun _ u=>u=v
 | .sat p=>p
def RL:List (Nat×SV)→Nat→Option SV
 | [],_=>none
 |(k,v)::l,t=>match Nat.beq k t with
  |true=>some v
  |false=>RL l t
def Pj(LL:List (Nat×SV))(t:Nat):SP:=match RL LL t with
 |some s=>s.sp
 |none=>fun _ _=>True
def lift(L:List (Nat×Value)):List (Nat×SV):=L.map fun p=>(p.1, .is p.2)
theorem LD:∀(L:List (Nat×Value)) (t:Nat),RL (lift L) t=(lk L t).map .is
 | [],_=>rfl
 |(k,v)::L,t=>by
  simp only[lift,List.map_cons,RL,lk]
  cases Nat.beq k t with
  |true=>rfl
  |false=>exact LD L t
theorem S2(LL:List (Nat×SV))(d:Nat)(s:SV):Pj ((d,s)::LL)=fun t=>if t=d then s.sp else Pj LL t:=by
 funext t
 simp only[Pj,RL]
 cases hb:Nat.beq d t with
 |true=>have:=Nat.eq_of_beq_eq_true hb;subst this;simp
 |false=>have:=Nat.ne_of_beq_eq_false hb;rw[if_neg (fun e=>this e.symm)]
def Vy(LL:List (Nat×SV))(looks:List Nat):Operand→Option Value
 | .tmp t=>match looks.any (Nat.beq t)with
  |true=>match RL LL t with
   |some (.is v)=>some v
   |_=>none
  |false=>none
 | .const v=>some v
 | .global g=>some (.pointer (some ⟨g,0,none⟩))
 | .func f=>some (.func (.func f) #[] #[])
theorem TW{LL:List (Nat×SV)}{looks:List Nat}{H:Hp}{a:Act}(h:∀t∈looks,Pj LL t H (a.tmps.getD t undef))(x:Operand)(u:Value)(hx:Vy LL looks x=some u):a.eval x=u:=by
 cases x with
 |tmp t=>
  simp only[Vy]at hx
  split at hx
  ·rename_i hm
   split at hx
   ·rename_i v hv
    simp at hx;subst hx
    obtain⟨s,hs,he⟩:=List.any_eq_true.1 hm
    have:=Nat.eq_of_beq_eq_true he
    subst this
    have:=h t hs
    simp only[Pj,hv,SV.sp]at this
    exact this
   ·cases hx
  ·cases hx
 |const u=>simpa [Vy,Act.eval]using hx
 |global g=>simpa [Vy,Act.eval]using hx
 |func f=>simpa [Vy,Act.eval]using hx
def Ai(P:Program)(G:Hp→Hp→Prop)(ops:Array Oper)(Z:Act→World→Prop)(rest:List Oper)(n:Nat)(LL:List (Nat×SV))(H:Hp)(O:List A2):Prop:=
 Loc P G ops H O n Z rest (Pj LL)
def As(Z:Act→World→Prop)(n:Nat)(LL:List (Nat×SV))(L:List (Nat×Value))(H:Hp)(O:List A2):Prop:=
 ∀a w,SH w H O→(∀t,Pj LL t H (a.tmps.getD t undef))→Fr a n L→Z a w
section
variable {P : Program} {G : Hp → Hp → Prop} {ops : Array Oper} {Z : Act → World → Prop} {rest : List Oper} {n : Nat} {LL : List (Nat × SV)} {L : List (Nat × Value)} {H : Hp} {O : List A2}
theorem Ai.done(h:∀H',G H H'→As Z n LL [] H' O):Ai P G ops Z [] n LL H O:=
 fun a w H' g1 g2 g3 g4 g5=>h H' g1 a w g2 g5 ⟨g3,g4,fun t v hv=>by simp[lk]at hv⟩
theorem As.nil(h:∀a w,Fr a n L→SH w H O→Z a w):As Z n LL L H O:=fun a w hs _ hf=>h a w hf hs
theorem Fr.add{a:Act}{t:Nat}{v:Value}(h:Fr a n L)(hv:a.tmps.getD t undef=v):Fr a n ((t,v)::L):=by
 refine⟨h.defers,h.size,fun t' v' h'=>?_⟩
 simp only[lk]at h'
 split at h'
 ·rename_i hb
  have:=Nat.eq_of_beq_eq_true hb
  subst this
  simp at h';subst h';exact hv
 ·exact h.get _ _ h'
theorem As.is{t:Nat}{v:Value}(hv:RL LL t=some (.is v))(h:As Z n LL ((t,v)::L) H O):As Z n LL L H O:=fun a w hs hp hf=>
 h a w hs hp (hf.add (by have:=hp t;simp only[Pj,hv,SV.sp]at this;exact this))
theorem Ai.Ng{d:Tmp}{o:Oper}{s:SV}(ho:o.dst=some d)(hl:Q' P G ops H O n o (Pj LL) s.sp)(k:Ai P G ops Z rest n ((d,s)::LL) H O):Ai P G ops Z (o::rest) n LL H O:=by
 refine⟨s.sp,hl,?_⟩
 rw[ho]
 simp only[←S2]
 exact k
def looks(op:Op):List Nat:=Oper.looksAt #[] {dst:=none,op,type:=0,pos:= "",after:= #[],guard:=none}
theorem E4{d:Option Tmp}{op:Op}{T:TypeId}{pos:String}{af:Array Edge} :Oper.looksAt ops {dst:=d,op,type:=T,pos,after:=af,guard:=none} =looks op:=by simp[Oper.looksAt,looks]
theorem Ka{d:Option Tmp}{op:Op}{T:TypeId}{pos:String}{af:Array Edge}{g:Option (Nat×Bool)}{t:Nat}(h:t∈looks op):t∈Oper.looksAt ops {dst:=d,op,type:=T,pos,after:=af,guard:=g} :=by
 simp only[Oper.looksAt,looks,List.mem_append]at h⊢
 rcases h with h|h
 ·exact .inl h
 ·simp at h
theorem Ai.op{d:Tmp}{op:Op}{T:TypeId}{pos:String}{af:Array Edge}{v:Value}(hrefl:∀H,G H H)
  (h:∀H',G H H'→Ab P op T (Vy LL (looks op)) H' O v) (hd:Nat.blt d n=true) (k:Ai P G ops Z rest n ((d, .is v)::LL) H O):
  Ai P G ops Z ({dst:=some d,op,type:=T,pos,after:=af,guard:=none} ::rest) n LL H O:=by
 refine Ai.Ng (s:= .is v) rf ⟨fun _ _ _ _ h=>h,fun d' hd'=>?_,fun H' a w g1 g2 g3 g4 g5 K Q hK=>?_⟩ k
 ·simp at hd';subst hd';simpa using hd
 ·rw[if_pos (by simp[Region.wanted])]
  rw[E4]at g5
  exact Oper.DF (h H' g1 a w _ rf rf (TW g5) g2) g2 fun w' hw'=>hK _ _ H' (hrefl H') hw' (fun _=>rfl)
theorem Ai.AQ{d t:Tmp}{op:Op}{T:TypeId}{pos:String}{af:Array Edge}{v:Value}{j:Nat}{b:Bool}(hrefl:∀H,G H H)
  (hj:Bw ops j=some t) (hb:RL LL t=some (.is (.bool b)))
  (h:∀H',G H H'→Ab P op T (Vy LL (looks op)) H' O v) (hd:Nat.blt d n=true) (k:Ai P G ops Z rest n ((d, .is v)::LL) H O):
  Ai P G ops Z ({dst:=some d,op,type:=T,pos,after:=af,guard:=some (j,b)} ::rest) n LL H O:=by
 refine Ai.Ng (s:= .is v) rf ⟨fun _ _ _ _ h=>h,fun d' hd'=>?_,fun H' a w g1 g2 g3 g4 g5 K Q hK=>?_⟩ k
 ·simp at hd';subst hd';simpa using hd
 ·have hjt:=hj
  unfold Bw at hjt
  have ht:a.tmps.getD t undef= .bool b:=by
   have:=g5 t (by simp[Oper.looksAt,hjt])
   simp only[Pj,hb,SV.sp]at this
   exact this
  rw[if_pos (by simp[Region.wanted,E0 hj ht])]
  refine Oper.DF (h H' g1 a w _ rf rf (TW fun t ht=>g5 t (Ka ht)) g2) g2 fun w' hw'=>hK _ _ H' (hrefl H') hw' (fun _=>rfl)
theorem Ai.Ak{d t:Tmp}{op:Op}{T:TypeId}{pos:String}{af:Array Edge}{j:Nat}{b c:Bool}(hrefl:∀H,G H H)
  (hj:Bw ops j=some t) (hb:RL LL t=some (.is (.bool c))) (hne:(c==b)=false) (hd:Nat.blt d n=true) (k:Ai P G ops Z rest n ((d, .is undef)::LL) H O):
  Ai P G ops Z ({dst:=some d,op,type:=T,pos,after:=af,guard:=some (j,b)} ::rest) n LL H O:=by
 refine Ai.Ng (s:= .is undef) rf ⟨fun _ _ _ _ h=>h,fun d' hd'=>?_,fun H' a w g1 g2 g3 g4 g5 K Q hK=>?_⟩ k
 ·simp at hd';subst hd';simpa using hd
 ·have hjt:=hj
  unfold Bw at hjt
  have ht:a.tmps.getD t undef= .bool c:=by
   have:=g5 t (by simp[Oper.looksAt,hjt])
   simp only[Pj,hb,SV.sp]at this
   exact this
  rw[if_neg (by simp only[Region.wanted,E0 hj ht];simpa using hne)]
  exact hK _ _ H' (hrefl H') g2 (fun _=>rfl)
theorem S1{a:Act}(hf:Fr a n L)(t:Nat):Pj (lift L) t H (a.tmps.getD t undef):=by
 simp only[Pj,LD]
 cases h:lk L t with
 |none=>trivial
 |some v=>exact hf.get t v h
theorem Lq(t:Nat):JS G (Pj (lift L) t):=by
 intro H H' v _ h
 simp only[Pj,LD]at*
 cases h':lk L t with
 |none=>trivial
 |some u=>rw[h']at h;exact h
end
section
variable {P : Program} {Q : Exit → Act → World → Prop} {n : Nat} {L : List (Nat × Value)} {H : Hp} {O : List A2}
theorem Wp.Ea{id:Nat}{l:List Oper}(k:Nat)(hm:P.follows .mixedOrders=true)(hk:Nat.ble k l.length=true)(hOK:MA l k=true)
  (h:Ai P Eq l.toArray (wpList P l.toArray Q (l.drop k)) (l.take k) n (lift L) H O):Wp P (.region id l.toArray true) Q n L H O:=
 fun _ _ hf hs=>UF (G:=Eq) Eq.refl (fun _ _ _=>Eq.trans) k hm hk hOK Lq h hs hf.defers hf.size (S1 hf)
section
variable {ops : Array Oper} {Z : Act → World → Prop} {rest : List Oper} {LL : List (Nat × SV)}
theorem Ai.A7{d:Tmp}{op:Op}{T:TypeId}{pos:String}{af:Array Edge}{v:Value}
 (h:Ab P op T (Vy LL (looks op)) H O v) (hd:Nat.blt d n=true) (k:Ai P Eq ops Z rest n ((d, .is v)::LL) H O):
 Ai P Eq ops Z ({dst:=some d,op,type:=T,pos,after:=af,guard:=none} ::rest) n LL H O:=Ai.op Eq.refl (fun _ e=>e▸h) hd k
theorem Ai.Be{d t:Tmp}{op:Op}{T:TypeId}{pos:String}{af:Array Edge}{v:Value}{j:Nat}{b:Bool}
 (hj:Bw ops j=some t) (hb:RL LL t=some (.is (.bool b)))
 (h:Ab P op T (Vy LL (looks op)) H O v) (hd:Nat.blt d n=true) (k:Ai P Eq ops Z rest n ((d, .is v)::LL) H O):
 Ai P Eq ops Z ({dst:=some d,op,type:=T,pos,after:=af,guard:=some (j,b)} ::rest) n LL H O:=Ai.AQ Eq.refl hj hb (fun _ e=>e▸h) hd k
theorem Ai.AE{d t:Tmp}{op:Op}{T:TypeId}{pos:String}{af:Array Edge}{j:Nat}{b c:Bool}
 (hj:Bw ops j=some t) (hb:RL LL t=some (.is (.bool c))) (hne:(c==b)=false) (hd:Nat.blt d n=true) (k:Ai P Eq ops Z rest n ((d, .is undef)::LL) H O):
 Ai P Eq ops Z ({dst:=some d,op,type:=T,pos,after:=af,guard:=some (j,b)} ::rest) n LL H O:=Ai.Ak Eq.refl hj hb hne hd k
theorem Ai.Eb(h:As Z n LL [] H O):Ai P Eq ops Z [] n LL H O:=Ai.done fun _ e=>e▸h
theorem As.Me{Q:Exit→Act→World→Prop}{tail:List Oper}(h:Aa P ops Q tail n L H O):As (wpList P ops Q tail) n LL L H O:=As.nil h
end
end
end Go.GK
namespace Go.GK
theorem BC{P:Program}{w:World}{t:TypeId}{d:TypeDesc}(h:P.underlying t=some d):(underlying t).run P w= .ok d w:=run_underlying h w
structure TI(P:Program)(t:TypeId)(size bytes:Nat)(z:Value):Prop where
 ex:∃i,P.info? t=some i∧i.size=size∧i.bytes=bytes∧i.zero=some z
theorem TI.of{P:Program}{t:TypeId}{size bytes:Nat}{z:Value}(h:(P.info? t).map (fun i=>(i.size,i.bytes,i.zero))=some (size,bytes,some z)):TI P t size bytes z:=by
 cases hi:P.info? t with
 |none=>simp[hi]at h
 |some i=>simp[hi]at h;exact⟨i,hi,h.1,h.2.1,h.2.2⟩
theorem TI.sizeOf{P:Program}{w:World}{t:TypeId}{size bytes:Nat}{z:Value}(h:TI P t size bytes z):(Go.sizeOf t).run P w= .ok size w:=by
 obtain⟨i,hi,h1,_⟩:=h.ex
 simp[Go.sizeOf,typeInfo,hi,h1]
theorem TI.zeroValue{P:Program}{w:World}{t:TypeId}{size bytes:Nat}{z:Value}(h:TI P t size bytes z):(Go.zeroValue t).run P w= .ok z w:=by
 obtain⟨i,hi,_,_,h1⟩:=h.ex
 simp[Go.zeroValue,typeInfo,hi,h1]
def Hi:TypeDesc→Bool
 | .struct _=>true
 | .array _ _=>true
 |_=>false
theorem Ew{P:Program}{w:World}{t:TypeId}{d:TypeDesc}(h:P.underlying t=some d):(isAgg t).run P w= .ok (Hi d) w:=by
 simp[isAgg,BC h]
 cases d<;>simp[Hi]
def ptr(b off:Nat):Value:= .pointer (some ⟨b,off,none⟩)
def AG(v:Value)(k:Nat):Value:=match v with
 | .slice (some a) _ _=> .pointer (some (a.add k))
 |_=>undef
theorem D_(a:Addr)(m n:Nat):(a.add m).add n=a.add (m+n):=by
 unfold Addr.add
 by_cases hm:m=0
 ·subst hm;simp
 ·by_cases hn:n=0
  ·subst hn;simp
  ·simp[hm,hn,Nat.add_assoc]
def Hj(H:Hp)(p:Value)(u:Value):Prop:= ∃a cur t fr,p= .pointer (some a)∧a.spot=none∧H.at_ a.block=some (.cells cur t fr)∧cur[a.off]?=some u
def JP(v:Value)(n:Nat):Prop:=(v= .slice none 0 0∧n=0)∨∃a cap,v= .slice (some a) n cap∧n≤cap
structure Sl(H:Hp)(v:Value)(size n:Nat)(xs:List Value):Prop where
 len:xs.length=n*size
 sl:JP v n
 cells:∀j u,xs[j]?=some u→Hj H (AG v j) u
theorem Hj.mono{H H':Hp}(h:H.le H'){p u:Value}(hc:Hj H p u):Hj H' p u:=by
 obtain⟨a,cur,t,fr,h1,h2,h3,h4⟩:=hc
 exact⟨a,cur,t,fr,h1,h2,h.1 _ _ h3,h4⟩
theorem Sl.mono{H H':Hp}(h:H.le H'){v:Value}{size n:Nat}{xs:List Value}(hs:Sl H v size n xs):Sl H' v size n xs:=
 ⟨hs.len,hs.sl,fun j u hj=>(hs.cells j u hj).mono h⟩
theorem Sl.nil(H:Hp)(size:Nat):Sl H (.slice none 0 0) size 0 []:=⟨by simp, .inl ⟨rfl,rfl⟩,fun j u h=>by simp at h⟩
theorem Hj.cell{H:Hp}{w:World}{O:List A2}(hs:SH w H O){p u:Value}(hc:Hj H p u):∃a,p= .pointer (some a)∧w.cell? a=some u:=by
 obtain⟨a,cur,t,fr,h1,h2,h3,h4⟩:=hc
 exact⟨a,h1,by simp[World.cell?,hs.OE _ _ h3,h2,h4]⟩
theorem SH.NJ{H:Hp}{w:World}{O:List A2}(hs:SH w H O){i B:Nat}{cs:Array Value}{t:TypeId}{fr:Nat×Nat}(hi:O[i]?=some (.Az B (.cells cs t fr))){off:Nat}{u:Value}(hu:cs[off]?=some u):
  w.cell? ⟨B,off,none⟩=some u:=by
 have:=hs.ok i _ hi
 simp only[A2.ok]at this
 simp[World.cell?,this,hu]
theorem SH.U1{H:Hp}{w:World}{O:List A2}(hs:SH w H O){i:Nat}{v:Value}{e:TypeId}{size n:Nat}{xs:List Value}(hi:O[i]?=some (.row v e size n xs)){j:Nat}{u:Value}(hu:xs[j]?=some u):
  ∃a,AG v j= .pointer (some a)∧a.spot=none∧v.ownBlock=some a.block∧w.cell? a=some u∧w.frozen? a=false:=by
 have h:=hs.ok i _ hi
 simp only[A2.ok]at h
 rcases h.2 with⟨rfl,rfl⟩|⟨g,cap,cur,rfl,_,hg,_,_,_,htake⟩
 ·have:xs=[]:=List.eq_nil_of_length_eq_zero (by simpa using h.1)
  subst this;simp at hu
 ·have:=h.cells (g:=g) rfl j u hu
  rw[Addr.add_lit]at this
  refine⟨⟨g,0+j,none⟩,by simp only[AG,Addr.add_lit],rf,rf,this,?_⟩
  simp[World.frozen?,hg]
theorem SH.Lk{H:Hp}{w:World}{O:List A2}(hs:SH w H O){i:Nat}{v:Value}{e:TypeId}{size n:Nat}{xs:List Value}(hi:O[i]?=some (.row v e size n xs)):JP v n∧xs.length=n*size:=by
 have h:=hs.ok i _ hi
 simp only[A2.ok]at h
 refine⟨?_,h.1⟩
 rcases h.2 with⟨rfl,rfl⟩|⟨g,cap,cur,rfl,_,_,hn,_⟩
 ·exact .inl ⟨rf,rf⟩
 ·exact .inr ⟨_,_,rf,hn⟩
theorem SH.freeze{w:World}{H:Hp}{O:List A2}(hs:SH w H O){i:Nat}{v:Value}{e:TypeId}{size n:Nat}{xs:List Value}(hi:O[i]?=some (.row v e size n xs)):
  ∃H',H.le H'∧SH w H' (O.eraseIdx i)∧Sl H' v size n xs:=by
 have h:=hs.ok i _ hi
 simp only[A2.ok]at h
 rcases h.2 with⟨rfl,rfl⟩|⟨g,cap,cur,rfl,_,hg,hn,_,hcs,htake⟩
 ·have:xs=[]:=List.eq_nil_of_length_eq_zero (by simpa using h.1)
  subst this
  exact⟨H,Hp.le.refl H,hs.drop i,Sl.nil H size⟩
 ·obtain⟨h1,h2⟩:=hs.U6 hi (b:=g) rfl hg
  refine⟨_,h1,h2,h.1, .inr ⟨_,_,rf,hn⟩,fun j u hj=>⟨⟨g,0+j,none⟩,cur,e,(0,0),by simp only[AG,Addr.add_lit],rf,by simp[Hp.put],?_⟩⟩
  rw[←htake]at hj
  rw[List.getElem?_take]at hj
  split at hj
  ·simpa using hj
  ·simp at hj
section
variable {P : Program} {T : TypeId} {E : Operand → Option Value} {H : Hp} {O : List A2}
theorem Ab.AR{op:Op}{v:Value}(h:∀(a:Act) (w:World) (o:Oper),o.op=op→o.type=T→(∀x u,E x=some u→a.eval x=u)→SH w H O→(execOp a.eval o).run P w= .ok (.value v) w):Ab P op T E H O v:=by
 intro a w o ho hT he hs
 simp[Oper.quietAt,h a w o ho hT he hs,Oper.quietUpon]
theorem Ab.move{x:Operand}{v:Value}(hx:E x=some v):Ab P (.move x) T E H O v:= .AR fun a w o ho _ he _=>by simp[execOp,ho,he x v hx]
theorem Ab.assign{x:Operand}{v:Value}(hx:E x=some v):Ab P (.assign x) T E H O v:= .AR fun a w o ho _ he _=>by simp[execOp,ho,he x v hx]
theorem Ab.AU{c x y:Operand}{v:Value}(hc:E c=some (.bool true))(hx:E x=some v):Ab P (.pick c x y) T E H O v:= .AR fun a w o ho _ he _=>by simp[execOp,ho,he x v hx,he c _ hc,asBool]
theorem Ab.AP{c x y:Operand}{v:Value}(hc:E c=some (.bool false))(hy:E y=some v):Ab P (.pick c x y) T E H O v:= .AR fun a w o ho _ he _=>by simp[execOp,ho,he y v hy,he c _ hc,asBool]
section ints
variable {k : IntKind} {x y : Operand} {m n : Int} {Tx Ty : TypeId}
theorem Ab.YS(hx:E x=some (.int k m))(hy:E y=some (.int k n)):Ab P (.binOp .add Tx x y Ty) T E H O (.int k (k.wrap (m+n))):= .AR fun a w o ho _ he _=>by
 simp[execOp,ho,he x _ hx,he y _ hy,eqGuard,binOp,Op.intArith]
theorem Ab.Zb(hx:E x=some (.int k m))(hy:E y=some (.int k n)):Ab P (.binOp .sub Tx x y Ty) T E H O (.int k (k.wrap (m-n))):= .AR fun a w o ho _ he _=>by
 simp[execOp,ho,he x _ hx,he y _ hy,eqGuard,binOp,Op.intArith]
theorem GN{k:IntKind}{n:Int}(h:k.min≤n∧n≤k.max):k.wrap n=n:=by
 cases k<;>simp[IntKind.min,IntKind.max,IntKind.signed,IntKind.bits]at h<;>simp[IntKind.wrap,IntKind.signed,IntKind.bits]<;>omega
theorem Av{n:Int}(h: -9223372036854775808≤n∧n≤9223372036854775807):IntKind.i64.min≤n∧n≤IntKind.i64.max:=by
 simpa [IntKind.min,IntKind.max,IntKind.signed,IntKind.bits]using h
theorem DW{n:Int}(h:0≤n∧n≤255):IntKind.u8.min≤n∧n≤IntKind.u8.max:=by
 simpa [IntKind.min,IntKind.max,IntKind.signed,IntKind.bits]using h
theorem Vw{n:Int}(h:0≤n∧n≤18446744073709551615):IntKind.u64.min≤n∧n≤IntKind.u64.max:=by
 simpa [IntKind.min,IntKind.max,IntKind.signed,IntKind.bits]using h
theorem Ab.add(hx:E x=some (.int k m))(hy:E y=some (.int k n))(h:k.min≤m+n∧m+n≤k.max):Ab P (.binOp .add Tx x y Ty) T E H O (.int k (m+n)):=by
 have:=Ab.YS (P:=P) (T:=T) (H:=H) (O:=O) (Tx:=Tx) (Ty:=Ty) hx hy;rwa [GN h]at this
theorem Ab.sub(hx:E x=some (.int k m))(hy:E y=some (.int k n))(h:k.min≤m-n∧m-n≤k.max):Ab P (.binOp .sub Tx x y Ty) T E H O (.int k (m-n)):=by
 have:=Ab.Zb (P:=P) (T:=T) (H:=H) (O:=O) (Tx:=Tx) (Ty:=Ty) hx hy;rwa [GN h]at this
theorem Ab.quo(hx:E x=some (.int k m))(hy:E y=some (.int k n))(h0:0≤m)(h1:0<n)(h:m≤k.max):Ab P (.binOp .quo Tx x y Ty) T E H O (.int k (m/n)):= .AR fun a w o ho _ he _=>by
 have hn:n≠0:=by omega
 have h2:m.tdiv n=m/n:=Int.tdiv_eq_ediv_of_nonneg h0
 have h3:0≤m/n:=Int.ediv_nonneg h0 (by omega)
 have h4:m/n≤m:=Int.ediv_le_self _ h0
 have hmin:k.min≤0:=by cases k<;>simp[IntKind.min,IntKind.signed,IntKind.bits]
 simp[execOp,ho,he x _ hx,he y _ hy,eqGuard,binOp,Op.intDiv,hn,h2,GN (k:=k) (n:=m/n) ⟨by omega,by omega⟩]
theorem Ab.rem(hx:E x=some (.int k m))(hy:E y=some (.int k n))(h0:0≤m)(h1:n≠0):Ab P (.binOp .rem Tx x y Ty) T E H O (.int k (m %n)):= .AR fun a w o ho _ he _=>by
 have h2:m.tmod n=m %n:=Int.tmod_eq_emod_of_nonneg h0
 simp[execOp,ho,he x _ hx,he y _ hy,eqGuard,binOp,Op.intDiv,h1,h2]
theorem Ab.eql(hx:E x=some (.int k m))(hy:E y=some (.int k n)):Ab P (.binOp .eql Tx x y Ty) T E H O (.bool (decide (m=n))):= .AR fun a w o ho _ he _=>by
 simp[execOp,ho,he x _ hx,he y _ hy,eqGuard,binOp,Op.intCmp]
 rw[Bool.eq_iff_iff];simp
theorem Ab.neq(hx:E x=some (.int k m))(hy:E y=some (.int k n)):Ab P (.binOp .neq Tx x y Ty) T E H O (.bool (decide (m≠n))):= .AR fun a w o ho _ he _=>by
 simp[execOp,ho,he x _ hx,he y _ hy,eqGuard,binOp,Op.intCmp]
 rw[Bool.eq_iff_iff];simp
theorem Ab.lss(hx:E x=some (.int k m))(hy:E y=some (.int k n)):Ab P (.binOp .lss Tx x y Ty) T E H O (.bool (decide (m<n))):= .AR fun a w o ho _ he _=>by
 simp[execOp,ho,he x _ hx,he y _ hy,eqGuard,binOp,Op.intCmp]
theorem Ab.leq(hx:E x=some (.int k m))(hy:E y=some (.int k n)):Ab P (.binOp .leq Tx x y Ty) T E H O (.bool (decide (m≤n))):= .AR fun a w o ho _ he _=>by
 simp[execOp,ho,he x _ hx,he y _ hy,eqGuard,binOp,Op.intCmp]
theorem Ab.gtr(hx:E x=some (.int k m))(hy:E y=some (.int k n)):Ab P (.binOp .gtr Tx x y Ty) T E H O (.bool (decide (n<m))):= .AR fun a w o ho _ he _=>by
 simp[execOp,ho,he x _ hx,he y _ hy,eqGuard,binOp,Op.intCmp]
theorem Ab.geq(hx:E x=some (.int k m))(hy:E y=some (.int k n)):Ab P (.binOp .geq Tx x y Ty) T E H O (.bool (decide (n≤m))):= .AR fun a w o ho _ he _=>by
 simp[execOp,ho,he x _ hx,he y _ hy,eqGuard,binOp,Op.intCmp]
theorem Ab.YL{s d:TypeId}{ds:TypeDesc}{k':IntKind}(hs:P.underlying s=some ds)(hd:P.underlying d=some (.int k'))(hx:E x=some (.int k m)):Ab P (.convert s d x) T E H O (.int k' (k'.wrap m)):= .AR fun a w o ho _ he _=>by
 simp[execOp,ho,he x _ hx,convert,BC hs,BC hd,Conv.intToInt]
theorem Ab.conv{s d:TypeId}{ds:TypeDesc}{k':IntKind}(hs:P.underlying s=some ds)(hd:P.underlying d=some (.int k'))(hx:E x=some (.int k m))(h:k'.min≤m∧m≤k'.max):Ab P (.convert s d x) T E H O (.int k' m):=by
 have:=Ab.YL (P:=P) (T:=T) (H:=H) (O:=O) hs hd hx;rwa [GN h]at this
end ints
section words
variable {x y : Operand} {Tx Ty : TypeId}
def Ad(a:BitVec 64):Value:= .int .u64 a.toNat
theorem M1(a:BitVec 64):IntKind.u64.wrap (a.toNat:Int)=a.toNat:=GN (Vw ⟨by omega,by have:=a.isLt;omega⟩)
theorem ofInt64(a:BitVec 64):BitVec.ofInt 64 (a.toNat:Int)=a:=by simp
theorem intBits_or(a b:BitVec 64):Op.intBits .or .u64 a.toNat b.toNat=pure (Ad (a|||b)):=by
 show(pure (.int .u64 (IntKind.u64.wrap ((BitVec.ofInt 64 (a.toNat:Int)|||BitVec.ofInt 64 (b.toNat:Int)).toNat:Int))):Sem Value)=_
 rw[ofInt64,ofInt64,M1];rfl
theorem intBits_and(a b:BitVec 64):Op.intBits .and .u64 a.toNat b.toNat=pure (Ad (a&&&b)):=by
 show(pure (.int .u64 (IntKind.u64.wrap ((BitVec.ofInt 64 (a.toNat:Int)&&&BitVec.ofInt 64 (b.toNat:Int)).toNat:Int))):Sem Value)=_
 rw[ofInt64,ofInt64,M1];rfl
theorem unary_xor(a:BitVec 64):Op.unary .xor (Ad a)=pure (Ad (~~~a)):=by
 show(pure (.int .u64 (IntKind.u64.wrap ((BitVec.ofInt 64 18446744073709551615^^^BitVec.ofInt 64 (a.toNat:Int)).toNat:Int))):Sem Value)=_
 rw[ofInt64,show BitVec.ofInt 64 18446744073709551615=BitVec.allOnes 64 from by decide,BitVec.allOnes_xor,M1];rfl
theorem Ab.Zz{a b:BitVec 64}(hx:E x=some (Ad a))(hy:E y=some (Ad b)):Ab P (.binOp .or Tx x y Ty) T E H O (Ad (a|||b)):= .AR fun ac w o ho _ he _=>by
 have:=intBits_or a b
 simp only[Ad]at*
 simp[execOp,ho,he x _ hx,he y _ hy,eqGuard,binOp,this]
theorem Ab.YQ{a b:BitVec 64}(hx:E x=some (Ad a))(hy:E y=some (Ad b)):Ab P (.binOp .and Tx x y Ty) T E H O (Ad (a&&&b)):= .AR fun ac w o ho _ he _=>by
 have:=intBits_and a b
 simp only[Ad]at*
 simp[execOp,ho,he x _ hx,he y _ hy,eqGuard,binOp,this]
theorem Ab.Zk{a:BitVec 64}(hx:E x=some (Ad a)):Ab P (.unOp .xor Tx x) T E H O (Ad (~~~a)):= .AR fun ac w o ho _ he _=>by
 have:=unary_xor a
 simp[execOp,ho,he x _ hx,this]
theorem shift_shl(a:BitVec 64)(k:IntKind)(n:Nat):Op.shift .shl .u64 a.toNat k n=pure (Ad (a<<<n)):=by
 have hneg:¬((n:Int)<0):=by omega
 have key:∀j:Nat,IntKind.u64.wrap ((a.toNat:Int)*2^j)=((a.toNat*2^j %2^64:Nat):Int):=fun j=>by
  simp[IntKind.wrap,IntKind.signed,IntKind.bits]
 unfold Op.shift
 rw[if_neg hneg]
 show(pure (.int .u64 (IntKind.u64.wrap ((a.toNat:Int)*2^ (min n 64)))):Sem Value)=_
 rw[key,Ad,BitVec.toNat_shiftLeft,Nat.shiftLeft_eq]
 by_cases h:n≤64
 ·rw[Nat.min_eq_left h]
 ·rw[Nat.min_eq_right (by omega)]
  have h1:a.toNat*2^n %2^64=0:=by
   rw[show n=64+(n-64) by omega,Nat.pow_add,←Nat.mul_assoc,Nat.mul_right_comm,Nat.mul_mod_left]
  rw[h1,Nat.mul_mod_left]
theorem shift_shr(a:BitVec 64)(k:IntKind)(n:Nat):Op.shift .shr .u64 a.toNat k n=pure (Ad (a>>>n)):=by
 have hneg:¬((n:Int)<0):=by omega
 have key:∀j:Nat,(a.toNat:Int).fdiv (2^j)=((a.toNat/2^j:Nat):Int):=fun j=>by
  rw[Int.fdiv_eq_ediv_of_nonneg _ (Int.pow_nonneg (by decide))]
  simp
 unfold Op.shift
 rw[if_neg hneg]
 show(pure (.int .u64 ((a.toNat:Int).fdiv (2^ (min n 64)))):Sem Value)=_
 rw[key,Ad,BitVec.toNat_ushiftRight,Nat.shiftRight_eq_div_pow]
 by_cases h:n≤64
 ·rw[Nat.min_eq_left h]
 ·rw[Nat.min_eq_right (by omega)]
  have h1:a.toNat/2^n=0:=Nat.div_eq_of_lt (Nat.lt_of_lt_of_le a.isLt (Nat.pow_le_pow_right (by decide) (by omega)))
  rw[h1,Nat.div_eq_of_lt a.isLt]
theorem Ab.XQ{k:IntKind}{a:BitVec 64}{n:Nat}(hx:E x=some (Ad a))(hy:E y=some (.int k (n:Int))):Ab P (.binOp .shl Tx x y Ty) T E H O (Ad (a<<<n)):= .AR fun ac w o ho _ he _=>by
 have:=shift_shl a k n
 simp only[Ad]at*
 simp[execOp,ho,he x _ hx,he y _ hy,eqGuard,binOp,this]
theorem Ab.Zd{k:IntKind}{a:BitVec 64}{n:Nat}(hx:E x=some (Ad a))(hy:E y=some (.int k (n:Int))):Ab P (.binOp .shr Tx x y Ty) T E H O (Ad (a>>>n)):= .AR fun ac w o ho _ he _=>by
 have:=shift_shr a k n
 simp only[Ad]at*
 simp[execOp,ho,he x _ hx,he y _ hy,eqGuard,binOp,this]
end words
theorem Ab.not{x:Operand}{Tx:TypeId}{b:Bool}(hx:E x=some (.bool b)):Ab P (.unOp .not Tx x) T E H O (.bool (!b)):= .AR fun ac w o ho _ he _=>by
 simp[execOp,ho,he x _ hx,Op.unary]
theorem Lh{w:World}{Tx:TypeId}{a b:Bool}(ht:P.underlying Tx=some .bool):(Op.equal Tx (.bool a) (.bool b)).run P w= .ok (a==b) w:=by
 have h:∀d,(Op.equalIn (d+1) Tx (.bool a) (.bool b)).run P w= .ok (a==b) w:=fun d=>by simp[Op.equalIn,BC ht]
 unfold Op.equal Op.maxDepth
 exact h 9999
theorem Ab.Ym{x y:Operand}{Tx Ty:TypeId}{a b:Bool}(ht:P.underlying Tx=some .bool)(hx:E x=some (.bool a))(hy:E y=some (.bool b)):Ab P (.binOp .eql Tx x y Ty) T E H O (.bool (a==b)):= .AR fun ac w o ho _ he _=>by
 have:=Lh (w:=w) (a:=a) (b:=b) ht
 simp[execOp,ho,he x _ hx,he y _ hy,eqGuard,binOp,this]
theorem Ab.ZA{x y:Operand}{Tx Ty:TypeId}{a b:Bool}(ht:P.underlying Tx=some .bool)(hx:E x=some (.bool a))(hy:E y=some (.bool b)):Ab P (.binOp .neq Tx x y Ty) T E H O (.bool (!(a==b))):= .AR fun ac w o ho _ he _=>by
 have:=Lh (w:=w) (a:=a) (b:=b) ht
 simp[execOp,ho,he x _ hx,he y _ hy,eqGuard,binOp,this]
theorem Ab.extract{x:Operand}{i:Nat}{vs:Array Value}{v:Value}(hx:E x=some (.tuple vs))(hi:vs[i]?=some v):Ab P (.extract x i) T E H O v:= .AR fun ac w o ho _ he _=>by
 simp[execOp,ho,he x _ hx,Instr.extract,hi]
theorem Ab.len{x:Operand}{t e:TypeId}{v:Value}{n:Nat}(ht:P.underlying t=some (.slice e))(hx:E x=some v)(hl:JP v n):Ab P (.call {callee:= .builtin .len,args:= #[x],argTypes:= #[t]}) T E H O (.int .i64 n):= .AR fun ac w o ho _ he _=>by
 rcases hl with⟨rfl,rfl⟩|⟨a,cap,rfl,_⟩<;>simp[execOp,ho,he x _ hx,resolve,invoke,builtin,Builtin.len_,BC ht,goInt]
theorem Ab.WX{x:Operand}{t:TypeId}{s:ByteArray}(ht:P.underlying t=some .string)(hx:E x=some (.string s)):Ab P (.call {callee:= .builtin .len,args:= #[x],argTypes:= #[t]}) T E H O (.int .i64 s.size):= .AR fun ac w o ho _ he _=>by
 simp[execOp,ho,he x _ hx,resolve,invoke,builtin,Builtin.len_,BC ht,goInt]
theorem Ab.WY{x:Operand}{t e:TypeId}{v:Value}{size n:Nat}{xs:List Value}(ht:P.underlying t=some (.slice e))(hx:E x=some v)(hl:Sl H v size n xs):Ab P (.call {callee:= .builtin .len,args:= #[x],argTypes:= #[t]}) T E H O (.int .i64 n):=Ab.len ht hx hl.sl
theorem Ab.CW{x:Operand}{t e e':TypeId}{v:Value}{i size n:Nat}{xs:List Value}(ht:P.underlying t=some (.slice e))(hx:E x=some v)(hi:O[i]?=some (.row v e' size n xs)):Ab P (.call {callee:= .builtin .len,args:= #[x],argTypes:= #[t]}) T E H O (.int .i64 n):=fun a w o ho hT he hs=>Ab.len (H:=H) (O:=O) ht hx (hs.Lk hi).1 a w o ho hT he hs
theorem Ab.ED{x y:Operand}{t e:TypeId}{len B off size bytes off':Nat}{z:Value}{k:IntKind}{i:Int}(ht:P.underlying t=some (.array len e))(hsz:TI P e size bytes z)(hx:E x=some (ptr B off))(hy:E y=some (.int k i))
  (h:0≤i∧i<len) (ho':off+i.toNat*size=off'):Ab P (.indexAddr t x y) T E H O (ptr B off'):= .AR fun ac w o ho _ he _=>by
 simp only[ptr]at*
 subst ho'
 simp[execOp,ho,he x _ hx,he y _ hy,Instr.indexAt,asIntOf,BC ht,Instr.sureAddr,h,hsz.sizeOf,Addr.add]
theorem Ab.Bz{x y:Operand}{t e:TypeId}{n size bytes:Nat}{z v:Value}{k:IntKind}{i:Int}(ht:P.underlying t=some (.slice e))(hsz:TI P e size bytes z)(hx:E x=some v)(hl:JP v n)(hy:E y=some (.int k i))
  (h:0≤i∧i<n):Ab P (.indexAddr t x y) T E H O (AG v (i.toNat*size)):= .AR fun ac w o ho _ he _=>by
 rcases hl with⟨rfl,rfl⟩|⟨a,cap,rfl,_⟩
 ·omega
 ·simp[execOp,ho,he x _ hx,he y _ hy,Instr.indexAt,asIntOf,BC ht,h,hsz.sizeOf,AG]
theorem Ab.Yc{x y:Operand}{t e:TypeId}{n size bytes:Nat}{z v:Value}{k:IntKind}{i:Int}{xs:List Value}{s:Nat}(ht:P.underlying t=some (.slice e))(hsz:TI P e size bytes z)(hx:E x=some v)(hl:Sl H v s n xs)(hy:E y=some (.int k i))
 (h:0≤i∧i<n):Ab P (.indexAddr t x y) T E H O (AG v (i.toNat*size)):=Ab.Bz ht hsz hx hl.sl hy h
theorem Ab.Co{x y:Operand}{t e e':TypeId}{n size bytes:Nat}{z v:Value}{k:IntKind}{i:Int}{xs:List Value}{s j:Nat}(ht:P.underlying t=some (.slice e))(hsz:TI P e size bytes z)(hx:E x=some v)(hj:O[j]?=some (.row v e' s n xs))(hy:E y=some (.int k i))
 (h:0≤i∧i<n):Ab P (.indexAddr t x y) T E H O (AG v (i.toNat*size)):=fun a w o ho hT he hs=>Ab.Bz (H:=H) (O:=O) ht hsz hx (hs.Lk hj).1 hy h a w o ho hT he hs
theorem run_loadCells{P:Program}{w:World}{a:Addr} :∀ {vs:List Value} {i:Nat} {acc:Array Value},(∀j u,vs[j]?=some u→w.cell? (a.add (i+j))=some u)→
  (loadCellsFrom a i vs.length acc).run P w= .ok (acc++vs.toArray) w
 | [],i,acc,_=>by simp[loadCellsFrom]
 |v::vs,i,acc,h=>by
  have h0:=h 0 v rfl
  simp only[Nat.add_zero]at h0
  have ih:=run_loadCells (P:=P) (w:=w) (a:=a) (vs:=vs) (i:=i+1) (acc:=acc.push v) (fun j u hj=>by
   have:=h (j+1) u (by simpa using hj)
   rwa [show i+(j+1)=i+1+j by omega]at this)
  simp only[List.length_cons,loadCellsFrom,Sem.run_bind,run_load,h0,Result.andThen_ok,ih]
  simp
theorem Fx{P:Program}{w:World}{t:TypeId}{d:TypeDesc}{a:Addr}{v:Value}(ht:P.underlying t=some d)(hd:Hi d=false)(h:w.cell? a=some v):(loadVar t a).run P w= .ok v w:=by
 simp[loadVar,Ew ht,hd,h]
theorem DD{P:Program}{w:World}{t:TypeId}{d:TypeDesc}{a:Addr}{vs:List Value}{bytes:Nat}{z:Value}(ht:P.underlying t=some d)(hd:Hi d=true)(hsz:TI P t vs.length bytes z)(h:∀j u,vs[j]?=some u→w.cell? (a.add j)=some u):(loadVar t a).run P w= .ok (.agg vs.toArray) w:=by
 have:=run_loadCells (P:=P) (w:=w) (a:=a) (vs:=vs) (i:=0) (acc:= #[]) (fun j u hj=>by simpa using h j u hj)
 simp[loadVar,Ew ht,hd,hsz.sizeOf,loadCells,this]
theorem Ab.Am{x:Operand}{t:TypeId}{d:TypeDesc}{B off i:Nat}{cs:Array Value}{t':TypeId}{fr:Nat×Nat}{v:Value}(ht:P.underlying t=some d)(hd:Hi d=false)(hx:E x=some (ptr B off))(hi:O[i]?=some (.Az B (.cells cs t' fr)))(hv:cs[off]?=some v):
  Ab P (.load t x) T E H O v:= .AR fun ac w o ho _ he hs=>by
 simp only[ptr]at hx
 simp[execOp,ho,he x _ hx,Instr.loadAt,Instr.sureAddr,Fx ht hd (hs.NJ hi hv)]
theorem Ab.Tv{x:Operand}{t:TypeId}{d:TypeDesc}{B off i bytes:Nat}{z:Value}{cs:Array Value}{t':TypeId}{fr:Nat×Nat}{vs:List Value}(ht:P.underlying t=some d)(hd:Hi d=true)(hsz:TI P t vs.length bytes z)(hx:E x=some (ptr B off))(hi:O[i]?=some (.Az B (.cells cs t' fr)))
  (hv:∀j u,vs[j]?=some u→cs[off+j]?=some u):Ab P (.load t x) T E H O (.agg vs.toArray):= .AR fun ac w o ho _ he hs=>by
 simp only[ptr]at hx
 have:=DD (P:=P) (w:=w) (a:=⟨B,off,none⟩) ht hd hsz (fun j u hj=>by rw[Addr.add_lit];exact hs.NJ hi (hv j u hj))
 simp[execOp,ho,he x _ hx,Instr.loadAt,Instr.sureAddr,this]
theorem Ab.Aw{x:Operand}{t:TypeId}{d:TypeDesc}{B i bytes size:Nat}{z:Value}{cs:Array Value}{t':TypeId}{fr:Nat×Nat}(ht:P.underlying t=some d)(hd:Hi d=true)(hsz:TI P t size bytes z)(hcs:cs.size=size)(hx:E x=some (ptr B 0))(hi:O[i]?=some (.Az B (.cells cs t' fr))):
  Ab P (.load t x) T E H O (.agg cs):=by
 have:=Ab.Tv (T:=T) (H:=H) (vs:=cs.toList) ht hd (by simpa [hcs]using hsz) hx hi (fun j u hj=>by simpa using hj)
 simpa using this
theorem UA.cells{H:Hp}{w:World}{O:List A2}(hs:SH w H O){v:Value}{k:Nat}{vs:List Value}(h0:vs≠ [])(h:∀j u,vs[j]?=some u→Hj H (AG v (k+j)) u):
  ∃a:Addr,AG v k= .pointer (some a)∧∀j u,vs[j]?=some u→w.cell? (a.add j)=some u:=by
 cases v with
 |slice b n c=>
  cases b with
  |none=>
   cases vs with
   |nil=>exact absurd rfl h0
   |cons y ys=>
    obtain⟨a,h1,_⟩:=(h 0 y rfl).cell hs
    simp[AG,undef]at h1
  |some b=>
   refine⟨b.add k,rf,fun j u hj=>?_⟩
   obtain⟨a,h1,h2⟩:=(h j u hj).cell hs
   simp only[AG,Value.pointer.injEq,Option.some.injEq]at h1
   rw[←h1]at h2
   rw[D_];exact h2
 |_=>
  cases vs with
  |nil=>exact absurd rfl h0
  |cons y ys=>
   obtain⟨a,h1,_⟩:=(h 0 y rfl).cell hs
   simp[AG,undef]at h1
theorem Ab.WZ{x:Operand}{t:TypeId}{d:TypeDesc}{v:Value}{k size n bytes:Nat}{z:Value}{xs vs:List Value}(ht:P.underlying t=some d)(hd:Hi d=true)(hsz:TI P t vs.length bytes z)(h0:vs≠ [])(hx:E x=some (AG v k))(hl:Sl H v size n xs)(hu:∀j u,vs[j]?=some u→xs[k+j]?=some u):
  Ab P (.load t x) T E H O (.agg vs.toArray):= .AR fun ac w o ho _ he hs=>by
 obtain⟨a,h1,h2⟩:=UA.cells hs (v:=v) (k:=k) h0 (fun j u hj=>hl.cells _ u (hu j u hj))
 rw[h1]at hx
 simp[execOp,ho,he x _ hx,Instr.loadAt,Instr.sureAddr,DD (w:=w) ht hd hsz h2]
theorem Ab.EX{x:Operand}{t e:TypeId}{d:TypeDesc}{v u:Value}{i k size n:Nat}{xs:List Value}(ht:P.underlying t=some d)(hd:Hi d=false)(hx:E x=some (AG v k))(hi:O[i]?=some (.row v e size n xs))(hu:xs[k]?=some u):
  Ab P (.load t x) T E H O u:= .AR fun ac w o ho _ he hs=>by
 obtain⟨a,h1,_,_,h2,_⟩:=hs.U1 hi hu
 rw[h1]at hx
 simp[execOp,ho,he x _ hx,Instr.loadAt,Instr.sureAddr,Fx ht hd h2]
theorem Ab.Nx{x:Operand}{t e:TypeId}{d:TypeDesc}{v:Value}{i k size n bytes:Nat}{z:Value}{xs vs:List Value}(ht:P.underlying t=some d)(hd:Hi d=true)(hsz:TI P t vs.length bytes z)(h0:vs≠ [])(hx:E x=some (AG v k))(hi:O[i]?=some (.row v e size n xs))(hu:∀j u,vs[j]?=some u→xs[k+j]?=some u):
  Ab P (.load t x) T E H O (.agg vs.toArray):= .AR fun ac w o ho _ he hs=>by
 have h:=hs.ok i _ hi
 simp only[A2.ok]at h
 rcases h.2 with⟨rfl,rfl⟩|⟨g,cap,cur,rfl,_,hg,_,_,_,htake⟩
 ·have hxs:xs=[]:=List.eq_nil_of_length_eq_zero (by simpa using h.1)
  subst hxs
  cases vs with
  |nil=>exact absurd rfl h0
  |cons y ys=>have:=hu 0 y rfl;simp at this
 ·have h2:∀j u,vs[j]?=some u→w.cell? ((Addr.add ⟨g,0,none⟩ k).add j)=some u:=fun j u hj=>by
   have:=h.cells (g:=g) rfl (k+j) u (hu j u hj)
   rw[D_];exact this
  simp only[AG]at hx
  simp[execOp,ho,he x _ hx,Instr.loadAt,Instr.sureAddr,DD (w:=w) ht hd hsz h2]
end
end Go.GK
namespace Go.GK
theorem HY(w:World)(g:Nat)(cs:Array Value):w.grownBy (w.setRow g cs) (some g):=
 ⟨rfl,rfl,rfl,by simp,fun k _ hk=>setRow_other w g k cs (fun e=>hk (by rw[e]))⟩
def E'(xs:List Value)(off:Nat)(vs:List Value):List Value:=xs.take off++vs++xs.drop (off+vs.length)
theorem M7(xs:List Value)(off:Nat)(v:Value)(h:off<xs.length):E' xs off [v]=xs.set off v:=by
 unfold E'
 rw[List.set_eq_take_append_cons_drop]
 simp[h]
theorem Rl(xs vs:List Value)(h:xs.length=vs.length):E' xs 0 vs=vs:=by
 unfold E';simp[h]
theorem IX(xs:List Value)(off:Nat)(vs:List Value)(h:off+vs.length≤xs.length):(E' xs off vs).length=xs.length:=by
 unfold E';simp;omega
theorem Sz(xs:List Value)(off m:Nat)(vs:List Value)(h:off+vs.length≤m)(h2:m≤xs.length):(E' xs off vs).take m=E' (xs.take m) off vs:=by
 unfold E'
 have h1:(xs.take off++vs).length=off+vs.length:=by simp;omega
 rw[List.take_append,h1,List.take_of_length_le (by omega),List.take_take,Nat.min_eq_left (by omega),List.drop_take]
theorem Kl{P:Program}{w:World}{t:TypeId}{v:Value}{g off bytes:Nat}{z:Value}{cur:Array Value}{e:TypeId}(hsz:TI P t v.cells.size bytes z)(hg:w.heap[g]?=some (.cells cur e (0,0)))(hfit:off+v.cells.size≤cur.size)
  (h1:∀u∈v.cells,u.oneCell'=true):(storeVar t ⟨g,off,none⟩ v).run P w= .ok () (w.setRow g (E' cur.toList off v.cells.toList).toArray):=by
 have:=run_storeCells_at (P:=P) g off e v.cells.toList 0 cur w hg (by simpa using hfit) (fun u hu=>h1 u (by simpa using hu))
 simp only[Nat.add_zero]at this
 simp[storeVar,hsz.sizeOf,this,E']
section
variable {P : Program} {Q : Exit → Act → World → Prop} {n : Nat} {L : List (Nat × Value)} {H : Hp} {O : List A2} {ops : Array Oper} {rest : List Oper}
variable {T : TypeId} {E : Operand → Option Value}
theorem Bc.mono{op:Op}{R R':Value→Hp→List A2→Prop}(h:Bc P op T E H O R)(hr:∀v H' O',R v H' O'→R' v H' O'):Bc P op T E H O R':=
 fun a w o next Q h1 h2 h3 h4 h5=>h a w o next Q h1 h2 h3 h4 fun v w' H' O' g1 g2 g3=>h5 v w' H' O' g1 (hr _ _ _ g2) g3
theorem Bc.AR{op:Op}{R:Value→Hp→List A2→Prop}(h:∀(a:Act) (w:World) (o:Oper),o.op=op→o.type=T→(∀x u,E x=some u→a.eval x=u)→SH w H O→
  ∃v w' H' O',(execOp a.eval o).run P w= .ok (.value v) w'∧H.le H'∧R v H' O'∧SH w' H' O'):Bc P op T E H O R:=by
 intro a w o next Q h1 h2 h3 h4 h5
 obtain⟨v,w',H',O',g1,g2,g3,g4⟩:=h a w o h1 h2 h3 h4
 unfold Oper.wp
 rw[g1]
 exact h5 v w' H' O' g2 g3 g4
theorem Bc.KI{op:Op}{R:Value→Hp→List A2→Prop}(h:∀(a:Act) (w:World) (o:Oper),o.op=op→o.type=T→(∀x u,E x=some u→a.eval x=u)→SH w H O→
  ∃w' H' O',(execOp a.eval o).run P w= .ok .skip w'∧H.le H'∧R undef H' O'∧SH w' H' O'):Bc P op T E H O R:=by
 intro a w o next Q h1 h2 h3 h4 h5
 obtain⟨w',H',O',g1,g2,g3,g4⟩:=h a w o h1 h2 h3 h4
 unfold Oper.wp
 rw[g1]
 exact h5 undef w' H' O' g2 g3 g4
theorem Aa.alloc{d:Tmp}{pos:String}{af:Array Edge}{t:TypeId}{size bytes:Nat}{z:Value}{cs:Array Value}(hz:TI P t size bytes z)(hc:z.cells=cs)(hd:Nat.blt d n=true)
  (k:∀B,Aa P ops Q rest n ((d,ptr B 0)::L) H (.Az B (.cells cs t (0,0))::O)):
  Aa P ops Q ({dst:=some d,op:= .alloc t,type:=T,pos,after:=af,guard:=none} ::rest) n L H O:=by
 refine Aa.Fi (R:=fun v H' O'=> ∃B,v=ptr B 0∧H'=H∧O'= .Az B (.cells cs t (0,0))::O) (.AR fun a w o ho _ he hs=>?_) hd ?_
 ·refine⟨_,_,H,_,?_,Hp.le.refl H,⟨w.heap.size,rf,rf,rf⟩,hs.alloc _⟩
  subst hc
  simp[execOp,ho,Instr.alloc,hz.zeroValue,newVar,newRow,ptr]
 ·rintro v H' O' _ ⟨B,rfl,rfl,rfl⟩
  exact k B
theorem Aa.box{d:Tmp}{pos:String}{af:Array Edge}{t:TypeId}{x:Operand}{v:Value}{cs:Array Value}(hx:ev L x=some v)(hc:v.cells=cs)(hd:Nat.blt d n=true)
  (k:∀B,Aa P ops Q rest n ((d,ptr B 0)::L) H (.Az B (.cells cs t (0,0))::O)):
  Aa P ops Q ({dst:=some d,op:= .box t x,type:=T,pos,after:=af,guard:=none} ::rest) n L H O:=by
 refine Aa.Fi (R:=fun v H' O'=> ∃B,v=ptr B 0∧H'=H∧O'= .Az B (.cells cs t (0,0))::O) (.AR fun a w o ho _ he hs=>?_) hd ?_
 ·refine⟨_,_,H,_,?_,Hp.le.refl H,⟨w.heap.size,rf,rf,rf⟩,hs.alloc _⟩
  subst hc
  simp[execOp,ho,he x v hx,Instr.box,newVar,newRow,ptr]
 ·rintro v H' O' _ ⟨B,rfl,rfl,rfl⟩
  exact k B
theorem Bc.N_{x y:Operand}{t:TypeId}{v z:Value}{i B off bytes size:Nat}{cs:Array Value}{e:TypeId}{vs:List Value}(hx:E x=some (ptr B off))(hy:E y=some v)(hv:v.cells.toList=vs)(hsz:TI P t size bytes z)(hs:vs.length=size)
  (h1:∀u∈vs,u.oneCell'=true) (hi:O[i]?=some (.Az B (.cells cs e (0,0)))) (hfit:off+vs.length≤cs.size):
  Bc P (.store t x y) T E H O (fun _ H' O'=>H'=H∧O'=O.set i (.Az B (.cells (E' cs.toList off vs).toArray e (0,0)))):= .KI fun a w o ho _ he hw=>by
 have hg:=hw.ok i _ hi
 simp only[A2.ok]at hg
 have hsize:v.cells.size=vs.length:=by rw[←hv];simp
 have hst:=Kl (P:=P) (w:=w) (t:=t) (v:=v) (g:=B) (off:=off) (e:=e) (by rw[hsize,hs];exact hsz) hg (by omega) (fun u hu=>h1 u (by rw[←hv];simpa using hu))
 simp only[ptr]at hx
 rw[hv]at hst
 refine⟨_,H,_,?_,Hp.le.refl H,⟨rf,rf⟩,hw.set hi (HY w B _) (setRow_heap w B cs _ e _ hg) (fun b hb=> .inl hb)⟩
 simp[execOp,ho,he x _ hx,he y _ hy,Instr.storeAt,Instr.sureAddr,hst]
theorem Aa.N_{pos:String}{af:Array Edge}{x y:Operand}{t:TypeId}{v z:Value}{i B off bytes size:Nat}{cs cs':Array Value}{e:TypeId}{vs:List Value}(hx:ev L x=some (ptr B off))(hy:ev L y=some v)(hv:v.cells.toList=vs)(hsz:TI P t size bytes z)(hs:vs.length=size)
  (h1:∀u∈vs,u.oneCell'=true) (hi:O[i]?=some (.Az B (.cells cs e (0,0)))) (hfit:off+vs.length≤cs.size) (hcs:(E' cs.toList off vs).toArray=cs')
  (k:Aa P ops Q rest n L H (O.set i (.Az B (.cells cs' e (0,0))))):
  Aa P ops Q ({dst:=none,op:= .store t x y,type:=T,pos,after:=af,guard:=none} ::rest) n L H O:=
 Aa.U9 (Bc.N_ hx hy hv hsz hs h1 hi hfit) (by rintro v H' O' _ ⟨rfl,rfl⟩;subst hcs;exact k)
theorem Aa.AM{pos:String}{af:Array Edge}{x y:Operand}{t:TypeId}{z:Value}{i B bytes size:Nat}{cs cs':Array Value}{e:TypeId}(hx:ev L x=some (ptr B 0))(hy:ev L y=some (.agg cs'))(hsz:TI P t size bytes z)(hs:cs'.size=size)(hs':cs.size=size)
  (h1:∀u∈cs',u.oneCell'=true) (hi:O[i]?=some (.Az B (.cells cs e (0,0))))
  (k:Aa P ops Q rest n L H (O.set i (.Az B (.cells cs' e (0,0))))):
  Aa P ops Q ({dst:=none,op:= .store t x y,type:=T,pos,after:=af,guard:=none} ::rest) n L H O:=
 Aa.N_ hx hy rfl hsz (by simpa [Value.cells]using hs) (fun u hu=>h1 u (by simpa [Value.cells]using hu)) hi (by simp[Value.cells,hs,hs']) (by rw[Rl _ _ (by simp[Value.cells,hs,hs'])];simp[Value.cells]) k
theorem Aa.Dc{pos:String}{af:Array Edge}{x y:Operand}{t:TypeId}{v z:Value}{i B off bytes:Nat}{cs:Array Value}{e:TypeId}(hx:ev L x=some (ptr B off))(hy:ev L y=some v)(hv:v.oneCell'=true)(hsz:TI P t 1 bytes z)
  (hi:O[i]?=some (.Az B (.cells cs e (0,0)))) (hfit:off<cs.size)
  (k:Aa P ops Q rest n L H (O.set i (.Az B (.cells (cs.setIfInBounds off v) e (0,0))))):
  Aa P ops Q ({dst:=none,op:= .store t x y,type:=T,pos,after:=af,guard:=none} ::rest) n L H O:=by
 have hc:v.cells.toList=[v]:=by cases v<;>simp_all [Value.cells,Value.oneCell']
 refine Aa.N_ hx hy hc hsz rfl (fun u hu=>by simp at hu;subst hu;exact hv) hi (by simp;omega) ?_ k
 rw[M7 _ _ _ (by simpa using hfit)]
 rw[←Array.toList_setIfInBounds]
theorem Bc.N9{x y:Operand}{t:TypeId}{v u z:Value}{i m size k bytes sz:Nat}{xs:List Value}{e:TypeId}{vs:List Value}(hx:E x=some (AG v k))(hy:E y=some u)(hv:u.cells.toList=vs)(hsz:TI P t sz bytes z)(hs:vs.length=sz)(h0:0<sz)
  (h1:∀u∈vs,u.oneCell'=true) (hi:O[i]?=some (.row v e size m xs)) (hfit:k+vs.length≤xs.length):
  Bc P (.store t x y) T E H O (fun _ H' O'=>H'=H∧O'=O.set i (.row v e size m (E' xs k vs))):= .KI fun a w o ho _ he hw=>by
 have hok:=hw.ok i _ hi
 simp only[A2.ok]at hok
 rcases hok.2 with⟨rfl,rfl⟩|⟨g,cap,cur,rfl,hb,hg,hn,hm,hcs,htake⟩
 ·have:xs=[]:=List.eq_nil_of_length_eq_zero (by simpa using hok.1)
  subst this;simp at hfit;simp[hfit]at hs;omega
 ·have hsize:u.cells.size=vs.length:=by rw[←hv];simp
  have hmn:m*size≤cur.size:=by rw[hcs];exact Nat.mul_le_mul_right _ hn
  have hfit':k+vs.length≤m*size:=by rw[←hok.1];exact hfit
  have hst:=Kl (P:=P) (w:=w) (t:=t) (v:=u) (g:=g) (off:=k) (e:=e) (by rw[hsize,hs];exact hsz) hg (by omega) (fun u hu=>h1 u (by rw[←hv];simpa using hu))
  rw[hv]at hst
  simp only[AG,Addr.add_lit,Nat.zero_add]at hx
  refine⟨_,H,_,?_,Hp.le.refl H,⟨rf,rf⟩,hw.set hi (HY w g (E' cur.toList k vs).toArray) (r':= .row (.slice (some ⟨g,0,none⟩) m cap) e size m (E' xs k vs)) ?_ (fun b hb=> .inl hb)⟩
  ·simp[execOp,ho,he x _ hx,he y _ hy,Instr.storeAt,Instr.sureAddr,hst]
  ·refine⟨by rw[IX _ _ _ hfit];exact hok.1, .inr ⟨g,cap,_,rf,hb,setRow_heap w g cur _ e _ hg,hn,hm,?_,?_⟩⟩
   ·simp only[List.size_toArray];rw[IX _ _ _ (by simp;omega)];simpa using hcs
   ·show(E' cur.toList k vs).take (m*size)=_
    rw[Sz _ _ _ _ hfit' (by simpa using hmn),htake]
theorem Aa.N9{pos:String}{af:Array Edge}{x y:Operand}{t:TypeId}{v u z:Value}{i m size k bytes sz:Nat}{xs:List Value}{e:TypeId}{vs:List Value}(hx:ev L x=some (AG v k))(hy:ev L y=some u)(hv:u.cells.toList=vs)(hsz:TI P t sz bytes z)(hs:vs.length=sz)(h0:0<sz)
  (h1:∀u∈vs,u.oneCell'=true) (hi:O[i]?=some (.row v e size m xs)) (hfit:k+vs.length≤xs.length)
  (kk:Aa P ops Q rest n L H (O.set i (.row v e size m (E' xs k vs)))):
  Aa P ops Q ({dst:=none,op:= .store t x y,type:=T,pos,after:=af,guard:=none} ::rest) n L H O:=
 Aa.U9 (Bc.N9 hx hy hv hsz hs h0 h1 hi hfit) (by rintro v H' O' _ ⟨rfl,rfl⟩;exact kk)
theorem Aa.WA{pos:String}{af:Array Edge}{x y:Operand}{t:TypeId}{v u z:Value}{i m size k bytes:Nat}{xs:List Value}{e:TypeId}(hx:ev L x=some (AG v k))(hy:ev L y=some u)(hv:u.oneCell'=true)(hsz:TI P t 1 bytes z)
  (hi:O[i]?=some (.row v e size m xs)) (hfit:k<xs.length)
  (kk:Aa P ops Q rest n L H (O.set i (.row v e size m (xs.set k u)))):
  Aa P ops Q ({dst:=none,op:= .store t x y,type:=T,pos,after:=af,guard:=none} ::rest) n L H O:=by
 have hc:u.cells.toList=[u]:=by cases u<;>simp_all [Value.cells,Value.oneCell']
 refine Aa.N9 hx hy hc hsz rfl (by decide) (fun w hu=>by simp at hu;subst hu;exact hv) hi (by simp;omega) ?_
 rw[M7 _ _ _ hfit];exact kk
theorem Aa.freeze{i m size:Nat}{v:Value}{e:TypeId}{xs:List Value}(hi:O[i]?=some (.row v e size m xs))(k:∀H',H.le H'→Sl H' v size m xs→Aa P ops Q rest n L H' (O.eraseIdx i)):Aa P ops Q rest n L H O:=fun a w hf hs=>by
 obtain⟨H',h1,h2,h3⟩:=hs.freeze hi
 exact k H' h1 h3 a w hf h2
theorem Aa.drop{i:Nat}(k:Aa P ops Q rest n L H (O.eraseIdx i)):Aa P ops Q rest n L H O:=fun a w hf hs=>k a w hf (hs.drop i)
theorem At.freeze{e':Exit}{i m size:Nat}{v:Value}{e:TypeId}{xs:List Value}(hi:O[i]?=some (.row v e size m xs))(k:∀H',H.le H'→Sl H' v size m xs→At Q e' n L H' (O.eraseIdx i)):At Q e' n L H O:=fun a w hf hs=>by
 obtain⟨H',h1,h2,h3⟩:=hs.freeze hi
 exact k H' h1 h3 a w hf h2
theorem At.drop{e':Exit}{i:Nat}(k:At Q e' n L H (O.eraseIdx i)):At Q e' n L H O:=fun a w hf hs=>k a w hf (hs.drop i)
theorem Wp.freeze{c:Code}{i m size:Nat}{v:Value}{e:TypeId}{xs:List Value}(hi:O[i]?=some (.row v e size m xs))(k:∀H',H.le H'→Sl H' v size m xs→Wp P c Q n L H' (O.eraseIdx i)):Wp P c Q n L H O:=fun a w hf hs=>by
 obtain⟨H',h1,h2,h3⟩:=hs.freeze hi
 exact k H' h1 h3 a w hf h2
theorem SH.Cb{w:World}(hs:SH w H O)(e:TypeId)(size:Nat):SH w H (.row (.slice none 0 0) e size 0 []::O):=
 hs.push (World.grownBy.refl w none) (World.ownsRow_nil w 0 e size) (fun b hb=>by simp[A2.block,Value.ownBlock]at hb)
theorem Wp.Cb{c:Code}(e:TypeId)(size:Nat)(k:Wp P c Q n L H (.row (.slice none 0 0) e size 0 []::O)):Wp P c Q n L H O:=fun a w hf hs=>k a w hf (hs.Cb e size)
theorem Aa.Cb(e:TypeId)(size:Nat)(k:Aa P ops Q rest n L H (.row (.slice none 0 0) e size 0 []::O)):Aa P ops Q rest n L H O:=fun a w hf hs=>k a w hf (hs.Cb e size)
def OP(E:Operand→Option Value):List (Nat×Operand)→Option (List (Nat×Value))
 | []=>some []
 |(i,x)::r=>match E x,OP E r with
  |some v,some vs=>some ((i,v)::vs)
  |_,_=>none
theorem HZ{E:Operand→Option Value}{a:Act}(he:∀x u,E x=some u→a.eval x=u):∀ {ps:List (Nat×Operand)} {vs:List (Nat×Value)},OP E ps=some vs→ps.map (fun p=>(p.1,a.eval p.2))=vs
 | [],vs,h=>by simpa [OP]using h
 |(i,x)::r,vs,h=>by
  simp only[OP]at h
  cases h1:E x with
  |none=>simp[h1]at h
  |some v=>
   cases h2:OP E r with
   |none=>simp[h1,h2]at h
   |some us=>
    simp[h1,h2]at h
    subst h
    simp[he x v h1]
    have:=HZ he h2
    simpa using this
theorem Ab.build{t:TypeId}{size bytes:Nat}{z:Value}{fs:Array Field}{zs cs:Array Value}{ps:List (Nat×Operand)}{vs:List (Nat×Value)}{places:Array (Nat×Nat)}(ht:P.underlying t=some (.struct fs))(hz:TI P t size bytes z)(hzc:z.cells=zs)
  (hp:∀w,(fs.mapM fun f=>do pure (f.offset,←Go.sizeOf f.type):Sem (Array (Nat×Nat))).run P w= .ok places w) (hps:OP E ps=some vs) (hf:Instr.fill (places[·]?) zs vs=some cs):Ab P (.build t ps.toArray) T E H O (.agg cs):= .AR fun a w o ho _ he _=>by
 have h1:(ps.toArray.map fun(i,x)=>(i,a.eval x)).toList=vs:=by simpa using HZ he hps
 simp only[execOp,ho,Instr.build,Sem.run_bind,hz.zeroValue,Result.andThen_ok,BC ht,hzc]
 rw[hp w]
 simp only[Result.andThen_ok,h1,hf]
 rfl
theorem Ab.Ki{t e:TypeId}{len size bytes esize ebytes:Nat}{z ez:Value}{zs cs:Array Value}{ps:List (Nat×Operand)}{vs:List (Nat×Value)}(ht:P.underlying t=some (.array len e))(hz:TI P t size bytes z)(hze:TI P e esize ebytes ez)(hzc:z.cells=zs)
  (hps:OP E ps=some vs) (hf:Instr.fill (fun i=>some (i*esize,esize)) zs vs=some cs):Ab P (.build t ps.toArray) T E H O (.agg cs):= .AR fun a w o ho _ he _=>by
 have h1:(ps.toArray.map fun(i,x)=>(i,a.eval x)).toList=vs:=by simpa using HZ he hps
 simp only[execOp,ho,Instr.build,Sem.run_bind,hz.zeroValue,Result.andThen_ok,BC ht,hzc,hze.sizeOf,h1,hf]
 rfl
theorem Aa.Q5{d:Tmp}{pos:String}{af:Array Edge}{t e:TypeId}{len size bytes:Nat}{z:Value}{zs cs:Array Value}{ps:List (Nat×Operand)}{vs:List (Nat×Value)}(ht:P.underlying t=some (.slice e))(hz:TI P e size bytes z)(hzc:z.cells=zs)
  (hlen:Nat.ble (len*size) 16777216=true) (h0:Nat.blt 0 (len*size)=true) (hps:OP (ev L) ps=some vs) (hf:Instr.fill (fun i=>some (i*size,size)) ((Array.range (len*size)).map (zs[· %zs.size]!)) vs=some cs) (hcs:cs.size=len*size) (hd:Nat.blt d n=true)
  (k:∀v,Aa P ops Q rest n ((d,v)::L) H (.row v e size len cs.toList::O)):
  Aa P ops Q ({dst:=some d,op:= .buildSlice t len ps.toArray,type:=T,pos,after:=af,guard:=none} ::rest) n L H O:=by
 refine Aa.Fi (R:=fun v H' O'=>H'=H∧O'= .row v e size len cs.toList::O) (.AR fun a w o ho _ he hs=>?_) hd ?_
 ·have h1:(ps.toArray.map fun(i,x)=>(i,a.eval x)).toList=vs:=by simpa using HZ he hps
  have hlen':¬len*size>2^24:=by have:=Nat.le_of_ble_eq_true hlen;omega
  have h0':¬len*size=0:=by simp at h0;omega
  refine⟨.slice (some ⟨w.heap.size,0,none⟩) len len,w.alloc (.cells cs e),H,_,?_,Hp.le.refl H,⟨rf,rf⟩,hs.push (World.grownBy_alloc w _ none) ?_ (fun b hb=>by simp[A2.block,Value.ownBlock]at hb;omega)⟩
  ·simp only[execOp,ho,Instr.buildSlice,Sem.run_bind,BC ht,Result.andThen_ok,hz.sizeOf,if_neg hlen',if_neg h0',hz.zeroValue,hzc,Sem.run_pure,h1,hf]
   simp[newRow]
  ·refine⟨by simpa using hcs, .inr ⟨w.heap.size,len,cs,rf,Nat.zero_le _,heap_alloc_new w _,Nat.le_refl _,?_,hcs,?_⟩⟩
   ·have h2:=Nat.le_of_ble_eq_true hlen
    have h3:len≤len*size:=Nat.le_mul_of_pos_right _ (Nat.pos_of_ne_zero fun h=>by subst h;simp at h0')
    simp only[maxLen];omega
   ·rw[List.take_of_length_le];simp[hcs]
 ·rintro v H' O' _ ⟨rfl,rfl⟩
  exact k v
theorem RU(l:List Value):∀(k:Nat) (acc:Array Value) (i:Nat),((l.zipIdx k).foldl (fun cs (p:Value×Nat)=>cs.setIfInBounds p.2 p.1) acc)[i]?=if k≤i∧i<k+l.length∧i<acc.size then l[i-k]? else acc[i]?:=by
 induction l with
 |nil=>intro k acc i;simp;intro h1 h2;omega
 |cons v l ih=>
  intro k acc i
  rw[List.zipIdx_cons,List.foldl_cons,ih (k+1) (acc.setIfInBounds k v) i]
  simp only[Array.size_setIfInBounds,Array.getElem?_setIfInBounds,List.length_cons]
  by_cases h1:k=i
  ·subst h1
   by_cases h2:k<acc.size
   ·have e1:¬(k+1≤k):=by omega
    have e2:k<k+(l.length+1):=by omega
    simp[e1,h2,e2]
   ·have e1:¬(k+1≤k):=by omega
    simp[e1,h2]
  ·by_cases h2:k≤i
   ·have e1:k+1≤i:=by omega
    have e3:(i<k+1+l.length)↔(i<k+(l.length+1)):=by omega
    have e4:i-k=(i-(k+1))+1:=by omega
    simp only[e1,h2,true_and,e3,h1,if_false,e4,List.getElem?_cons_succ]
   ·have e1:¬(k+1≤i):=by omega
    simp[e1,h2,h1]
theorem OM{size:Nat}{zs:Array Value}{v:Value}(hz:zs.size=size)(hv:v.cells.size=size):Instr.fill (fun i=>some (i*size,size)) zs [(0,v)]=some v.cells:=by
 have hc:¬(v.cells.size≠size∨0*size+v.cells.size>zs.size):=by rw[hv,hz];simp
 have h2:(v.cells.size≠size||decide (0*size+v.cells.size>zs.size))=false:=by simp[hv,hz]
 simp only[Instr.fill,h2]
 simp only[Bool.false_eq_true,if_false,Option.some.injEq]
 apply Array.ext_getElem?
 intro i
 have h3:=RU v.cells.toList 0 zs i
 have h4:(v.cells.zipIdx.foldl (fun cs (x:Value×Nat)=>match x with|(c,j)=>cs.setIfInBounds (0*size+j) c) zs)=((v.cells.toList.zipIdx 0).foldl (fun cs (p:Value×Nat)=>cs.setIfInBounds p.2 p.1) zs):=by
  rw[←Array.foldl_toList,Array.toList_zipIdx]
  simp
 rw[h4,h3]
 simp only[Nat.zero_le,true_and,Nat.zero_add,Array.length_toList,hv,hz,Nat.sub_zero,and_self]
 split
 ·simp
 ·rw[Array.getElem?_eq_none (by omega),Array.getElem?_eq_none (by omega)]
theorem Aa.Hf{d:Tmp}{pos:String}{af:Array Edge}{t e:TypeId}{size bytes:Nat}{z v:Value}{cs:Array Value}{x:Operand}(ht:P.underlying t=some (.slice e))(hz:TI P e size bytes z)
  (hlen:Nat.ble size 16777216=true) (h0:Nat.blt 0 size=true) (hx:ev L x=some v) (hc:v.cells=cs) (hcs:cs.size=size) (hd:Nat.blt d n=true)
  (k:∀v',Aa P ops Q rest n ((d,v')::L) H (.row v' e size 1 cs.toList::O)):
  Aa P ops Q ({dst:=some d,op:= .buildSlice t 1 #[(0,x)],type:=T,pos,after:=af,guard:=none} ::rest) n L H O:=by
 refine Aa.Q5 (zs:=z.cells) (cs:=cs) (vs:=[(0,v)]) (ps:=[(0,x)]) ht hz rf (by simpa using hlen) (by simpa using h0) (by simp[OP,hx]) ?_ (by simpa using hcs) hd k
 rw[←hc]
 exact OM (by simp) (by rw[hc,hcs])
def Src(w:World)(x:Value)(size m:Nat)(news:List Value):Prop:=
 news.length=m*size∧((x= .slice none 0 0∧m=0)∨∃ad c,x= .slice (some ad) m c∧∀j u,news[j]?=some u→w.cell? (ad.add j)=some u)
theorem SH.J1{w:World}(hs:SH w H O){i m size:Nat}{v:Value}{e:TypeId}{xs:List Value}(hi:O[i]?=some (.row v e size m xs)):Src w v size m xs:=by
 have h:=hs.ok i _ hi
 simp only[A2.ok]at h
 refine⟨h.1,?_⟩
 rcases h.2 with⟨rfl,rfl⟩|⟨g,cap,cur,rfl,_⟩
 ·exact .inl ⟨rf,rf⟩
 ·exact .inr ⟨_,_,rf,h.cells (g:=g) rf⟩
theorem SH.WC{w:World}(hs:SH w H O){m size:Nat}{v:Value}{xs:List Value}(hl:Sl H v size m xs):Src w v size m xs:=by
 refine⟨hl.len,?_⟩
 rcases hl.sl with⟨rfl,rfl⟩|⟨a,cap,rfl,_⟩
 ·exact .inl ⟨rf,rf⟩
 ·refine .inr ⟨_,_,rf,fun j u hj=>?_⟩
  obtain⟨a',h1,h2⟩:=(hl.cells j u hj).cell hs
  simp only[AG,Value.pointer.injEq,Option.some.injEq]at h1
  rw[h1];exact h2
theorem Bc.append{s x:Operand}{t e:TypeId}{size bytes:Nat}{z:Value}{v y:Value}{i m m':Nat}{xs news:List Value}(ht:P.underlying t=some (.slice e))(hz:TI P e size bytes z)(hzs:z.cells.size=size)(h0:0<size)(hs:E s=some v)(hx:E x=some y)
  (hi:O[i]?=some (.row v e size m xs)) (hsrc:∀w,SH w H O→Src w y size m' news) (h1:∀u∈news,u.oneCell'=true) (hb:(m+m')*bytes≤140737488355328) (hl:m+m'≤140737488355328):
  Bc P (.call {callee:= .builtin .append,args:= #[s,x],argTypes:= #[t,t]}) T E H O (fun v' H' O'=>H'=H∧O'=O.set i (.row v' e size (m+m') (xs++news))):=by
 intro a w o next Q ho hT he hw k
 have hown:=hw.ok i _ hi
 simp only[A2.ok]at hown
 obtain⟨ii,hii,g1,g2,g3⟩:=hz.ex
 have key:∀v' w',w'.ownsRow 0 e size v' (m+m') (xs++news)→w.grownBy w' v.ownBlock→(v'.ownBlock=v.ownBlock∨∀b,v'.ownBlock=some b→w.heap.size≤b)→next (a.put o.dst v') w':=fun v' w' k1 k2 k3=>
  k v' w' H _ (Hp.le.refl H) ⟨rfl,rfl⟩ (hw.set hi k2 k1 (fun b hb=>by
   rcases k3 with k3|k3
   ·left;rw[A2.block]at hb⊢;rw[←k3];exact hb
   ·exact .inr (k3 b hb)))
 obtain⟨hlen,hsrc⟩:=hsrc w hw
 rcases hsrc with⟨rfl,rfl⟩|⟨ad,c,rfl,hcells⟩
 ·have hn:news=[]:=List.eq_nil_of_length_eq_zero (by simpa using hlen)
  subst hn
  have hrun:=run_append_owned_none (P:=P) (w:=w) 0 t o.type e ii size ht hii v m xs hown
  unfold Oper.wp
  simp[execOp,ho,resolve,invoke,builtin,he s _ hs,he x _ hx,hrun,Result.andThen]
  exact key v w (by simpa using hown) (World.grownBy.refl _ _) (.inl rf)
 ·obtain⟨v',w',hr,k1,k2,k3⟩:=run_append_own (P:=P) w 0 t o.type e ii z size bytes ht hii g3 g1 g2 hzs h0 v m xs hown ad m' c news hlen hcells h1 (by simp only[maxLen];omega) hb (Nat.zero_le _)
  unfold Oper.wp
  simp[execOp,ho,resolve,invoke,builtin,he s _ hs,he x _ hx,hr,Result.andThen]
  refine key v' w' k1 k2 ?_
  subst g1
  rcases hown.2 with⟨rfl,rfl⟩|⟨g,cap,cur,rfl,_,hg,hnc,_,hcs,htake⟩
  ·right
   have hx0:xs=[]:=List.eq_nil_of_length_eq_zero (by simpa using hown.1)
   subst hx0
   obtain⟨v2,w2,hr2,q1,_,_⟩:=run_append_own (P:=P) w w.heap.size t o.type e ii z ii.size bytes ht hii g3 rfl g2 hzs h0 (.slice none 0 0) 0 [] (World.ownsRow_nil w _ e _) ad m' c news hlen hcells h1 (by simp only[maxLen];omega) hb (Nat.le_refl _)
   rw[hr]at hr2
   injection hr2 with e1 e2
   subst e1;subst e2
   exact fun b hb=>(World.ownsRow.lt q1 b hb).1
  ·by_cases hroom:m+m'≤cap
   ·left
    have hfit:m*ii.size+news.length≤cur.size:=by rw[hlen,hcs,←Nat.add_mul];exact Nat.mul_le_mul_right _ hroom
    have hr2:=run_append_room (P:=P) w t o.type e ii ht hii g m cap cur hg ad m' c news hlen hcells h1 hroom hfit
    rw[hr]at hr2
    injection hr2 with e1 e2
    rw[e1];rfl
   ·right
    have hr2:=run_append_grow (P:=P) w t o.type e ii z ht hii g3 ⟨g,0,none⟩ m cap xs hown.1 (hown.cells (g:=g) rfl) ad m' c news hlen hcells (by omega) (by omega) (growslice_fits (by omega) (by rw[g2];exact hb))
    rw[hr]at hr2
    injection hr2 with e1 e2
    intro b hb
    rw[e1]at hb
    simp[Value.ownBlock]at hb
    omega
theorem Aa.append{d:Tmp}{pos:String}{af:Array Edge}{s x:Operand}{t e:TypeId}{size bytes:Nat}{z:Value}{v y:Value}{i m m':Nat}{xs news:List Value}(ht:P.underlying t=some (.slice e))(hz:TI P e size bytes z)(hzs:z.cells.size=size)(h0:0<size)(hs:ev L s=some v)(hx:ev L x=some y)
  (hi:O[i]?=some (.row v e size m xs)) (hsrc:∀w,SH w H O→Src w y size m' news) (h1:∀u∈news,u.oneCell'=true) (hb:(m+m')*bytes≤140737488355328) (hl:m+m'≤140737488355328) (hd:Nat.blt d n=true)
  (k:∀v',Aa P ops Q rest n ((d,v')::L) H (O.set i (.row v' e size (m+m') (xs++news)))):
  Aa P ops Q ({dst:=some d,op:= .call {callee:= .builtin .append,args:= #[s,x],argTypes:= #[t,t]},type:=T,pos,after:=af,guard:=none} ::rest) n L H O:=
 Aa.Fi (Bc.append ht hz hzs h0 hs hx hi hsrc h1 hb hl) hd (by rintro v' H' O' _ ⟨rfl,rfl⟩;exact k v')
theorem Aa.make{d:Tmp}{pos:String}{af:Array Edge}{l c:Operand}{t e:TypeId}{size bytes:Nat}{z:Value}{kl kc:IntKind}{m:Nat}(ht:P.underlying t=some (.slice e))(hz:TI P e size bytes z)(hl:ev L l=some (.int kl (m:Int)))(hc:ev L c=some (.int kc (m:Int)))
  (hb:bytes*m≤281474976710656) (hm:m≤140737488355328) (hd:Nat.blt d n=true)
  (k:∀v,Aa P ops Q rest n ((d,v)::L) H (.row v e size m (madeCells z.cells (m*size)).toList::O)):
  Aa P ops Q ({dst:=some d,op:= .makeSlice t l c,type:=T,pos,after:=af,guard:=none} ::rest) n L H O:=by
 refine Aa.Fi (R:=fun v H' O'=>H'=H∧O'= .row v e size m (madeCells z.cells (m*size)).toList::O) (.AR fun a w o ho _ he hs=>?_) hd ?_
 ·obtain⟨i,hi,g1,g2,g3⟩:=hz.ex
  obtain⟨w',hr,k1,k2⟩:=run_make_full (P:=P) (w:=w) 0 t e i z size ht hi g3 g1 kl kc m (by rw[g2];exact hb) (by simp only[maxLen];omega) (Nat.zero_le _)
  refine⟨_,w',H,_,?_,Hp.le.refl H,⟨rf,rf⟩,hs.push k2 k1 (fun b hb=>by simp[A2.block,Value.ownBlock]at hb;omega)⟩
  simp[execOp,ho,he l _ hl,he c _ hc,hr]
 ·rintro v H' O' _ ⟨rfl,rfl⟩
  exact k v
structure EH(P:Program)(f:FuncId):Prop where
 ex:∃fn,P.funcs[f]?=some fn∧(fn.name== "runtime.NumGoroutine")=false∧fn.body.isNone=false
theorem EH.run{f:FuncId}(h:EH P f)(args:Array Value)(w:World):(callFunc f args).run P w= .ok (.enter f args) w:=by
 obtain⟨fn,h1,h2,h3⟩:=h.ex
 have h2':¬fn.name= "runtime.NumGoroutine" :=by simpa using h2
 have h3':¬fn.body=none:=fun h=>by simp[h]at h3
 simp[callFunc,h1,h2',h3']
def LS(E:Operand→Option Value):List Operand→Option (List Value)
 | []=>some []
 |x::xs=>match E x,LS E xs with
  |some v,some vs=>some (v::vs)
  |_,_=>none
theorem E7{a:Act}(he:∀x u,E x=some u→a.eval x=u):∀ {xs:List Operand} {vs:List Value},LS E xs=some vs→xs.map a.eval=vs
 | [],vs,hx=>by simpa [LS]using hx
 |x::xs,vs,hx=>by
  simp only[LS]at hx
  cases h1:E x with
  |none=>simp[h1]at hx
  |some v=>
   cases h2:LS E xs with
   |none=>simp[h1,h2]at hx
   |some us=>
    simp[h1,h2]at hx
    subst hx
    simp[he x v h1,E7 he h2]
def YV(H:Hp)(R:Value→Hp→List A2→Prop)(e:Ending)(w':World):Prop:= ∃v H' O',e= .returned v∧H.le H'∧SH w' H' O'∧R v H' O'
def Eg(P:Program)(f:FuncId)(args:List Value)(H:Hp)(O:List A2)(R:Value→Hp→List A2→Prop):Prop:=
 ∀w,SH w H O→Calls P f args.toArray w (YV H R)
def CB(P:Program)(f:FuncId)(args:List Value)(H:Hp)(O:List A2)(v:Value):Prop:=
 ∀w,SH w H O→Calls P f args.toArray w fun e w'=>e= .returned v∧SH w' H O
theorem Eg.mono{f:FuncId}{args:List Value}{R R':Value→Hp→List A2→Prop}(h:Eg P f args H O R)(hr:∀v H' O',H.le H'→R v H' O'→R' v H' O'):Eg P f args H O R':=fun w hs=>
 (h w hs).mono fun _ _ ⟨v,H',O',h1,h2,h3,h4⟩=>⟨v,H',O',h1,h2,h3,hr _ _ _ h2 h4⟩
theorem Ab.call{f:FuncId}{args:List Operand}{vs:List Value}{tys:Array TypeId}{v:Value}(hent:EH P f)(ha:LS E args=some vs)(ht:CB P f vs H O v):Ab P (.call {callee:= .value (.func f),args:=args.toArray,argTypes:=tys}) T E H O v:=fun a w o ho _ he hs=>by
 have hr:(execOp a.eval o).run P w= .ok (.enter f vs.toArray) w:=by
  simp[execOp,ho,resolve,Deferred.ofValue,Act.eval,invoke,E7 he ha,hent.run]
 simp only[Oper.quietAt,hr,Oper.quietUpon,true_and]
 exact ht w hs
theorem Bc.call{f:FuncId}{args:List Operand}{vs:List Value}{tys:Array TypeId}{R:Value→Hp→List A2→Prop}(hent:EH P f)(ha:LS E args=some vs)(ht:Eg P f vs H O R):Bc P (.call {callee:= .value (.func f),args:=args.toArray,argTypes:=tys}) T E H O R:=fun a w o next Q ho _ he hs k=>by
 have hr:(execOp a.eval o).run P w= .ok (.enter f vs.toArray) w:=by
  simp[execOp,ho,resolve,Deferred.ofValue,Act.eval,invoke,E7 he ha,hent.run]
 unfold Oper.wp
 rw[hr]
 refine(ht w hs).mono ?_
 rintro e w' ⟨v,H',O',rfl,h2,h3,h4⟩
 exact k v w' H' O' h2 h4 h3
def R8:Nat→List Value→List (Nat×Value)
 |_,[]=>[]
 |i,v::vs=>(i,v)::R8 (i+1) vs
theorem MW:∀(vs:List Value) (i t:Nat) (v:Value),lk (R8 i vs) t=some v→i≤t∧vs[t-i]?=some v
 | [],_,_,_,h=>by simp[R8,lk]at h
 |u::us,i,t,v,h=>by
  simp only[R8,lk]at h
  cases hb:Nat.beq i t with
  |true=>
   rw[hb]at h
   have:=Nat.eq_of_beq_eq_true hb
   subst this
   simp at h;subst h
   exact⟨Nat.le_refl _,by simp⟩
  |false=>
   rw[hb]at h
   have ne:=Nat.ne_of_beq_eq_false hb
   obtain⟨h1,h2⟩:=MW us (i+1) t v h
   refine⟨by omega,?_⟩
   rw[show t-i=(t-(i+1))+1 by omega]
   simpa using h2
theorem Fr.enter(vs:List Value)(n:Nat)(h:Nat.ble vs.length n=true):Fr {tmps:=vs.toArray++Array.replicate (n-vs.toArray.size) undef,defers:=[]} n (R8 0 vs):=by
 have h':=Nat.le_of_ble_eq_true h
 refine⟨rf,by simp;omega,fun t v hv=>?_⟩
 obtain⟨_,h2⟩:=MW vs 0 t v hv
 simp at h2
 have hlt:t<vs.length:=(List.getElem?_eq_some_iff.1 h2).1
 have h3:vs[t]=v:=by rw[List.getElem?_eq_getElem hlt]at h2;exact Option.some.inj h2
 simp[Array.getElem?_append,hlt,h3]
theorem Bo{f:FuncId}{fn:Func}{c:Code}{vs:List Value}{X:Ending→World→Prop}(hf:P.funcs[f]?=some fn)(hb:fn.body=some c)(hn:fn.ntmps=n)(ha:Nat.ble vs.length n=true)
  (h:Wp P c (bodyPost P fn X) n (R8 0 vs) H O) {w:World} (hs:SH w H O):Calls P f vs.toArray w X:=by
 subst hn
 exact calls_of_wp hf hb (h _ w (Fr.enter vs _ ha) hs)
def XR(tmps:Array Value)(r:ResultVar):Sem Value:=match r with
 | .tmp t=>pure (tmps.getD t undef)
 | .cell ad t=>do loadVar t (←asAddr (tmps.getD ad undef))
theorem Ln(fn:Func)(tmps:Array Value):results fn tmps=(do let vs←fn.results.mapM (XR tmps);pure (if h:vs.size=1 then vs[0]else .tuple vs)):=by
 have:(fun r=>match r with
  | .tmp t=>(pure (tmps.getD t undef):Sem Value)
  | .cell ad t=>do loadVar t (←asAddr (tmps.getD ad undef)))=XR tmps:=by funext r;cases r<;>rfl
 unfold results
 rw[←this]
 rfl
def RV(P:Program)(n:Nat)(L:List (Nat×Value))(H:Hp)(O:List A2)(r:ResultVar)(v:Value):Prop:=
 ∀a w,Fr a n L→SH w H O→(XR a.tmps r).run P w= .ok v w
theorem RV.tmp{t:Tmp}{v:Value}(h:lk L t=some v):RV P n L H O (.tmp t) v:=fun a w hf _=>by
 have:=hf.get t v h
 simp only[XR,this,Sem.run_pure]
theorem RV.CQ{ad:Tmp}{t t':TypeId}{d:TypeDesc}{B i bytes size:Nat}{z:Value}{cs:Array Value}{fr:Nat×Nat}(h:lk L ad=some (ptr B 0))(ht:P.underlying t=some d)(hd:Hi d=true)(hsz:TI P t size bytes z)(hcs:cs.size=size)(hi:O[i]?=some (.Az B (.cells cs t' fr))):RV P n L H O (.cell ad t) (.agg cs):=fun a w hf hs=>by
 have hg:=hf.get ad _ h
 have:=DD (P:=P) (w:=w) (a:=⟨B,0,none⟩) (vs:=cs.toList) ht hd (by simpa [hcs]using hsz) (fun j u hj=>by
  rw[Addr.add_lit];exact hs.NJ hi (by simpa using hj))
 simp only[XR,hg,ptr]
 simpa [asAddr]using this
theorem At.Zf{fn:Func}{X:Ending→World→Prop}(hr:fn.results= #[])(k:∀w,SH w H O→X (.returned (.tuple #[])) w):At (bodyPost P fn X) .ret n L H O:=fun a w hf hs=>⟨hf.defers,_,by simp[results,hr],k w hs⟩
theorem At.IH{fn:Func}{X:Ending→World→Prop}(hr:fn.results= #[])(k:∀w,SH w H O→X (.returned (.tuple #[])) w):At (bodyPost P fn X) .normal n L H O:=fun a w hf hs=>⟨hf.defers,_,by simp[results,hr],k w hs⟩
theorem At.C_{fn:Func}{X:Ending→World→Prop}{r:ResultVar}{v:Value}(hr:fn.results= #[r])(hv:RV P n L H O r v)(k:∀w,SH w H O→X (.returned v) w):At (bodyPost P fn X) .ret n L H O:=fun a w hf hs=>by
 refine⟨hf.defers,v,?_,k w hs⟩
 have h1:=hv a w hf hs
 rw[Ln,hr]
 simp[h1]
theorem At.Mj{fn:Func}{X:Ending→World→Prop}{r s:ResultVar}{v u:Value}(hr:fn.results= #[r,s])(hv:RV P n L H O r v)(hu:RV P n L H O s u)(k:∀w,SH w H O→X (.returned (.tuple #[v,u])) w):At (bodyPost P fn X) .ret n L H O:=fun a w hf hs=>by
 refine⟨hf.defers,_,?_,k w hs⟩
 have h1:=hv a w hf hs
 have h2:=hu a w hf hs
 rw[Ln,hr]
 simp[h1,h2]
theorem YV.mk{H0:Hp}{R:Value→Hp→List A2→Prop}{v:Value}(hle:H0.le H)(hr:R v H O):∀w,SH w H O→YV H0 R (.returned v) w:=fun _ hs=>⟨v,H,O,rfl,hle,hs,hr⟩
end
theorem SH.weaken{w:World}{H H':Hp}{O:List A2}(h:SH w H' O)(hle:H.le H'):SH w H O where
 OE b o hb:=h.OE b o (hle.1 b o hb)
 os:=h.os.trans hle.2.1
 output:=h.output.trans hle.2.2.1
 tape:=h.tape.trans hle.2.2.2
 ok:=h.ok
 NV i r b hi hb:=by
  have:=h.NV i r b hi hb
  cases he:H.at_ b with
  |none=>rfl
  |some o=>rw[hle.1 b o he]at this;cases this
 nd:=h.nd
theorem SH.BW{w:World}{H:Hp}{O:List A2}(h:SH w H O)(k:Nat):SH w H (O.drop k):=
 h.pick (fun i=>k+i) (fun i r hr=>by simpa using hr) (fun i j _ _ h=>by omega)
theorem At.q1{P:Program}{n:Nat}{L:List (Nat×Value)}{H H0:Hp}{O O0:List A2}{fn:Func}{r:ResultVar}{v:Value}(k:Nat)(hl:H0.le H)(hr:fn.results= #[r])(hv:RV P n L H O r v)(hO:O.drop k=O0):At (bodyPost P fn (fun e w'=>e= .returned v∧SH w' H0 O0)) .ret n L H O:=
 At.C_ hr hv fun w hs=>⟨rfl,hO▸(hs.BW k).weaken hl⟩
theorem X_{n:Int}(h:n≤9223372036854775807):n≤IntKind.i64.max:=by simpa [IntKind.max,IntKind.signed,IntKind.bits]using h
theorem Zo{n:Int}(h:n≤255):n≤IntKind.u8.max:=by simpa [IntKind.max,IntKind.signed,IntKind.bits]using h
section
variable {P : Program} {T : TypeId} {E : Operand → Option Value} {H : Hp} {O : List A2}
theorem Ab.ZP{x y:Operand}{Tx Ty:TypeId}{a b:BitVec 64}(hx:E x=some (Ad a))(hy:E y=some (Ad b)):Ab P (.binOp .eql Tx x y Ty) T E H O (.bool (decide (a=b))):=by
 have:=Ab.eql (P:=P) (T:=T) (H:=H) (O:=O) (Tx:=Tx) (Ty:=Ty) hx hy
 have e:decide ((a.toNat:Int)=(b.toNat:Int))=decide (a=b):=by
  apply decide_eq_decide.2
  rw[Int.ofNat_inj]
  exact⟨fun h=>BitVec.eq_of_toNat_eq h,fun h=>by rw[h]⟩
 rwa [e]at this
theorem Ab.cast{op:Op}{v v':Value}(k:Ab P op T E H O v)(h:v=v'):Ab P op T E H O v':=h▸k
theorem Ab.BR{op:Op}{b c:Bool}(k:Ab P op T E H O (.bool b))(h:b=c):Ab P op T E H O (.bool c):=h▸k
theorem Aa.split{ops:Array Oper}{Q:Exit→Act→World→Prop}{rest:List Oper}{n:Nat}{L:List (Nat×Value)}{t:Nat}{b:Bool}(hb:lk L t=some (.bool b))(hT:b=true→Aa P ops Q rest n ((t, .bool true)::L) H O)(hF:b=false→Aa P ops Q rest n ((t, .bool false)::L) H O):Aa P ops Q rest n L H O:=fun a w hf hs=>by
 have hg:=hf.get t _ hb
 cases b with
 |true=>exact hT rfl a w (hf.add hg) hs
 |false=>exact hF rfl a w (hf.add hg) hs
theorem JP.some{v:Value}{n:Nat}(h:JP v n)(h0:0<n):∃a cap,v= .slice (Option.some a) n cap:=by
 rcases h with⟨_,rfl⟩|⟨a,cap,h,_⟩
 ·omega
 ·exact⟨a,cap,h⟩
theorem Ab.W1{x y:Operand}{t e:TypeId}{len n j size bytes:Nat}{z v:Value}{k:IntKind}{i:Int}(ht:P.underlying t=some (.array len e))(hsz:TI P e size bytes z)(hx:E x=some (AG v j))(hl:JP v n)(h0:0<n)(hy:E y=some (.int k i))
  (h:0≤i∧i<len):Ab P (.indexAddr t x y) T E H O (AG v (j+i.toNat*size)):= .AR fun ac w o ho _ he _=>by
 obtain⟨a,cap,rfl⟩:=hl.some h0
 simp only[AG]at*
 simp[execOp,ho,he x _ hx,he y _ hy,Instr.indexAt,asIntOf,BC ht,Instr.sureAddr,h,hsz.sizeOf,D_]
theorem Ab.TF{x y:Operand}{t e e':TypeId}{len n j size bytes s q:Nat}{z v:Value}{k:IntKind}{i:Int}{xs:List Value}(ht:P.underlying t=some (.array len e))(hsz:TI P e size bytes z)(hx:E x=some (AG v j))(hq:O[q]?=some (.row v e' s n xs))(h0:0<n)(hy:E y=some (.int k i))
 (h:0≤i∧i<len):Ab P (.indexAddr t x y) T E H O (AG v (j+i.toNat*size)):=fun a w o ho hT he hs=>Ab.W1 (H:=H) (O:=O) ht hsz hx (hs.Lk hq).1 h0 hy h a w o ho hT he hs
theorem Gc{α:Type}(enc:α→List Value)(s:Nat)(hs:∀x,(enc x).length=s):∀l:List α,(l.flatMap enc).length=l.length*s
 | []=>by simp
 |x::l=>by simp[hs x,Gc enc s hs l,Nat.add_mul,Nat.add_comm]
theorem OL{α:Type}(enc:α→List Value)(s:Nat)(hs:∀x,(enc x).length=s):∀(l:List α) (i j:Nat) (x:α),l[i]?=some x→j<s→(l.flatMap enc)[i*s+j]?=(enc x)[j]?
 | [],i,j,x,h,_=>by simp at h
 |y::l,0,j,x,h,hj=>by
  simp at h;subst h
  simp only[List.flatMap_cons,Nat.zero_mul,Nat.zero_add]
  rw[List.getElem?_append_left (by rw[hs];exact hj)]
 |y::l,i+1,j,x,h,hj=>by
  simp only[List.flatMap_cons]
  rw[List.getElem?_append_right (by rw[hs,Nat.add_mul];omega),hs,show(i+1)*s+j-s=i*s+j by rw[Nat.add_mul];omega]
  exact OL enc s hs l i j x (by simpa using h) hj
theorem Aa.own{ops:Array Oper}{Q:Exit→Act→World→Prop}{rest:List Oper}{n:Nat}{L:List (Nat×Value)}{O':List A2}(k:Aa P ops Q rest n L H O)(h:O'=O):Aa P ops Q rest n L H O':=h▸k
theorem Qk{cs:List Value}(h:cs.all Value.oneCell'=true):∀u∈cs,u.oneCell'=true:=fun u hu=>List.all_eq_true.1 h u hu
theorem At.own{e:Exit}{Q:Exit→Act→World→Prop}{n:Nat}{L:List (Nat×Value)}{O':List A2}(k:At Q e n L H O)(h:O'=O):At Q e n L H O':=h▸k
theorem Ab.W2{x y:Operand}{t e:TypeId}{d:TypeDesc}{len size bytes:Nat}{z:Value}{k:IntKind}{i:Int}{cs:Array Value}(ht:P.underlying t=some (.array len e))(he:P.underlying e=some d)(hd:Hi d=true)(hz:TI P e size bytes z)(hx:E x=some (.agg cs))(hy:E y=some (.int k i))(h:0≤i∧i<len):
  Ab P (.index t x y) T E H O (.agg (cs.extract (i.toNat*size) (i.toNat*size+size))):= .AR fun ac w o ho _ he' _=>by
 simp[execOp,ho,he' x _ hx,he' y _ hy,Instr.index,asIntOf,BC ht,h,hz.sizeOf,part,Ew he,hd]
end
end Go.GK
namespace Go.GK
open Go.RowKit Go.Deep
def Hp.of(W:World):Hp:= {at_:=fun b=>W.heap[b]?,os:=W.os,output:=W.output,tape:=W.tape}
theorem SH.start(W:World):SH W (Hp.of W) []:=
 ⟨fun _ _ h=>h,rfl,rfl,rfl,fun i r h=>by simp at h,fun i r b h=>by simp at h,fun i j r r' b h=>by simp at h⟩
theorem SH.below{W w':World}{O:List A2}(h:SH w' (Hp.of W) O):Below W.heap.size W w':=by
 have hb:∀k,k<W.heap.size→w'.heap[k]?=W.heap[k]?:=fun k hk=>by
  have:=h.OE k W.heap[k] (by simp[Hp.of,hk])
  rw[this];simp[hk]
 refine⟨h.os,h.tape,h.output,?_,hb⟩
 rcases Nat.eq_zero_or_pos W.heap.size with h0|h0
 ·omega
 ·have:=hb (W.heap.size-1) (by omega)
  rw[show W.heap[W.heap.size-1]?=some W.heap[W.heap.size-1] by simp]at this
  have:=(Array.getElem?_eq_some_iff.1 this).1
  omega
section
variable {H : Type} {enc : TypeId × Value → H} {P : Program} {w : World} {base : Nat} {spare : Nat → Bool} {held : Bool}
theorem Hj.U_{a:Addr}{u:Value}(h:w.cell? a=some u):Hj (Hp.of w) (.pointer (some a)) u:=by
 unfold World.cell? at h
 cases hb:w.heap[a.block]? with
 |none=>simp[hb]at h
 |some o=>
  cases o with
  |cells c t fr=>
   simp only[hb]at h
   cases hs:a.spot with
   |none=>simp[hs]at h;exact⟨a,c,t,fr,rfl,hs,hb,h⟩
   |some x=>simp[hs]at h
  |_=>simp[hb]at h
theorem Kz{α:Type}{Q:Nat→α→Prop} :∀n:Nat,(∀i,i<n→∃a,Q i a)→∃l:List α,l.length=n∧∀i a,l[i]?=some a→Q i a
 |0,_=>⟨[],rfl,fun i a h=>by simp at h⟩
 |n+1,h=>by
  obtain⟨l,h1,h2⟩:=Kz n fun i hi=>h i (by omega)
  obtain⟨a,ha⟩:=h n (by omega)
  refine⟨l++[a],by simp[h1],fun i b hb=>?_⟩
  by_cases hi:i<n
  ·rw[List.getElem?_append_left (by omega)]at hb;exact h2 i b hb
  ·have e:i=n:=by have:=(List.getElem?_eq_some_iff.1 hb).1;simp at this;omega
   subst e
   rw[List.getElem?_append_right (by omega)]at hb
   simp[h1]at hb;subst hb;exact ha
end
end Go.GK
namespace Go.GK
section
variable {P : Program} {Q : Exit → Act → World → Prop} {n : Nat} {L : List (Nat × Value)} {H : Hp} {O : List A2}
theorem Aa.Ah{ops:Array Oper}{y:Code}{Q2:Exit→Act→World→Prop}(h:Wp P y Q n L H O):Aa P ops (Exit.then (y.wp P Q) Q2) [] n L H O:=h
theorem Wp.sr{y:Code}{id:Nat}{l:List Oper}(h:Aa P l.toArray (Exit.then (y.wp P Q) Q) l n L H O):Wp P (.seq (.region id l.toArray false) y) Q n L H O:=Wp.seq (Wp.region h)
theorem At.Zm(h:At Q .normal n L H O):At (Exit.noGoto Q) .normal n L H O:=h
theorem At.Vb(h:At Q .ret n L H O):At (Exit.noGoto Q) .ret n L H O:=h
theorem Wp.scope{c:Code}(h:Wp P c (Exit.noGoto Q) n L H O):Wp P (.scope c) Q n L H O:=fun a w hf hs=>wp_scope_straight (h a w hf hs)
end
structure Fv(P:Program)(s i off ft:Nat):Prop where
 ex:∃fs f,P.underlying s=some (.struct fs)∧fs[i]?=some f∧f.offset=off∧f.type=ft∧∃inf,P.info? ft=some inf∧inf.size≠0
def Yh(P:Program)(s i:Nat):Option (Nat×Nat×Nat):=
 match P.underlying s with
 |some (.struct fs)=>match fs[i]? with
  |some f=>match P.info? f.type with
   |some inf=>some (f.offset,f.type,inf.size)
   |none=>none
  |none=>none
 |_=>none
theorem Fv.of{P:Program}{s i off ft k:Nat}(h:Yh P s i=some (off,ft,k+1)):Fv P s i off ft:=by
 unfold Yh at h
 split at h
 ·rename_i fs hs
  split at h
  ·rename_i f hf
   split at h
   ·rename_i inf hi
    simp only[Option.some.injEq,Prod.mk.injEq]at h
    obtain⟨h1,h2,h3⟩:=h
    exact⟨fs,f,hs,hf,h1,h2,inf,by rw[←h2];exact hi,by omega⟩
   ·cases h
  ·cases h
 ·cases h
section
variable {P : Program} {T : TypeId} {E : Operand → Option Value} {H : Hp} {O : List A2} {x y : Operand}
theorem Kn{w:World}{s i off ft:Nat}{a:Addr}(hf:Fv P s i off ft):(Instr.fieldAt s (.pointer (some a)) i).run P w= .ok (.pointer (some (a.add off))) w:=by
 obtain⟨fs,f,hs,hfi,ho,ht,inf,hi,h0⟩:=hf.ex
 subst ho ht
 have hsz:(Go.sizeOf f.type).run P w= .ok inf.size w:=by simp[Go.sizeOf,typeInfo,hi]
 simp[Instr.fieldAt,BC hs,hfi,Instr.sureAddr,fieldPlace,hsz,h0]
theorem Ab.A6{s i off ft B o o':Nat}(hf:Fv P s i off ft)(hx:E x=some (ptr B o))(ho':o+off=o'):Ab P (.fieldAddr s x i) T E H O (ptr B o'):= .AR fun ac w oo ho _ he _=>by
 subst ho'
 simp only[ptr]at*
 have:=Kn (w:=w) (a:=⟨B,o,none⟩) hf
 simp[execOp,ho,he x _ hx,this,Addr.add]
theorem Ab.Vu{s i off ft n k:Nat}{v:Value}(hf:Fv P s i off ft)(hx:E x=some (AG v k))(hl:JP v n)(h0:0<n):Ab P (.fieldAddr s x i) T E H O (AG v (k+off)):= .AR fun ac w oo ho _ he _=>by
 obtain⟨a,cap,rfl⟩:=hl.some h0
 simp only[AG]at*
 have:=Kn (w:=w) (a:=a.add k) hf
 simp[execOp,ho,he x _ hx,this,D_]
theorem Ab.NC{s i off ft n k size e q:Nat}{v:Value}{xs:List Value}(hf:Fv P s i off ft)(hx:E x=some (AG v k))(hq:O[q]?=some (.row v e size n xs))(h0:0<n):Ab P (.fieldAddr s x i) T E H O (AG v (k+off)):=
 fun a w o ho hT he hs=>Ab.Vu (H:=H) (O:=O) hf hx (hs.Lk hq).1 h0 a w o ho hT he hs
theorem Ab.byteOf{t:TypeId}{s:ByteArray}{k:IntKind}{i:Int}{b:UInt8}(ht:P.underlying t=some .string)(hx:E x=some (.string s))(hy:E y=some (.int k i))(h0:0≤i)(hb:s[i.toNat]?=some b):Ab P (.index t x y) T E H O (.int .u8 (b.toNat:Nat)):= .AR fun ac w oo ho _ he _=>by
 simp[execOp,ho,he x _ hx,he y _ hy,Instr.index,asIntOf,BC ht,h0,hb]
end
def MO(P:Program):List Field→List IntKind→Nat→Bool
 |f::fs,k::ks,j=>f.name != "_" &&f.offset==j&&(match P.underlying f.type with|some (.int k')=>k'==k|_=>false)&&MO P fs ks (j+1)
 | [],[],_=>true
 |_,_,_=>false
def QM(P:Program)(t:TypeId)(ks:List IntKind):Bool:=
 match P.underlying t with
 |some (.struct fs)=>MO P fs.toList ks 0&& !P.stoodInHeld t&& !P.eqGuardType P.depth t
 |_=>false
def HE(ks:List IntKind)(aS:List Int):List Value:=List.zipWith Value.int ks aS
theorem Gw{P:Program}{d:Nat}(w:World):∀(fs:List Field) (ks:List IntKind) (aS bs:List Int) (px py:List Value),MO P fs ks px.length=true→aS.length=ks.length→bs.length=ks.length→px.length=py.length→
  (Op.eqFields (d+1) (px++HE ks aS).toArray (py++HE ks bs).toArray fs).run P w= .ok (decide (aS=bs)) w
 | [],ks,aS,bs,px,py,hf,h1,h2,hp=>by
  cases ks with
  |nil=>simp at h1 h2;subst h1 h2;simp[Op.eqFields]
  |cons=>simp[MO]at hf
 |f::fs,ks,aS,bs,px,py,hf,h1,h2,hp=>by
  cases ks with
  |nil=>simp[MO]at hf
  |cons k ks=>
   cases aS with
   |nil=>simp at h1
   |cons a aS=>
    cases bs with
    |nil=>simp at h2
    |cons b bs=>
     simp only[MO,Bool.and_eq_true,bne_iff_ne,ne_eq,beq_iff_eq]at hf
     obtain⟨⟨⟨hn,ho⟩,hk⟩,hr⟩:=hf
     have hu:P.underlying f.type=some (.int k):=by
      split at hk
      ·rename_i k' hu;rw[hu];simp at hk;rw[hk]
      ·cases hk
     have ih:=Gw (P:=P) (d:=d) w fs ks aS bs (px++[.int k a]) (py++[.int k b]) (by simpa using hr) (by simpa using h1) (by simpa using h2) (by simp[hp])
     have e1:px++HE (k::ks) (a::aS)=(px++[.int k a])++HE ks aS:=by simp[HE]
     have e2:py++HE (k::ks) (b::bs)=(py++[.int k b])++HE ks bs:=by simp[HE]
     rw[←e1,←e2]at ih
     have p1:(part f.type (px++HE (k::ks) (a::aS)).toArray f.offset).run P w= .ok (.int k a) w:=by
      simp[part,Ew hu,Hi,ho,e1]
     have p2:(part f.type (py++HE (k::ks) (b::bs)).toArray f.offset).run P w= .ok (.int k b) w:=by
      simp[part,Ew hu,Hi,ho,e2,hp]
     have p3:(Op.equalIn (d+1) f.type (.int k a) (.int k b)).run P w= .ok (a==b) w:=by simp[Op.equalIn,BC hu]
     simp only[Op.eqFields,hn,not_false_eq_true,ne_eq,if_true,Sem.run_bind,p1,p2,p3,Result.andThen_ok]
     by_cases e:a=b
     ·subst e
      simp only[beq_self_eq_true,Bool.not_true,Bool.false_eq_true,if_false,ih,List.cons.injEq,true_and]
     ·simp[e]
section
variable {P : Program} {T : TypeId} {E : Operand → Option Value} {H : Hp} {O : List A2} {x y : Operand} {Tx Ty : TypeId} {ks : List IntKind} {xs ys : List Int}
theorem PD{d:Nat}(hs:QM P Tx ks=true)(w:World)(h1:xs.length=ks.length)(h2:ys.length=ks.length):(Op.equalIn (d+1+1) Tx (.agg (HE ks xs).toArray) (.agg (HE ks ys).toArray)).run P w= .ok (decide (xs=ys)) w∧P.eqGuardType P.depth Tx=false:=by
 unfold QM at hs
 split at hs
 ·rename_i fs hu
  simp only[Bool.and_eq_true,Bool.not_eq_true']at hs
  have hfs:P.fieldsOf Tx=fs:=by simp[Program.fieldsOf,hu]
  refine⟨?_,hs.2⟩
  rw[run_equalIn_agg w (d+1) Tx _ _ (by rw[hfs,hu]) hs.1.2,hfs]
  have:=Gw (P:=P) (d:=d) w fs.toList ks xs ys [] [] hs.1.1 h1 h2 rfl
  simpa using this
 ·cases hs
theorem Ab.Tf(hs:QM P Tx ks=true)(hx:E x=some (.agg (HE ks xs).toArray))(hy:E y=some (.agg (HE ks ys).toArray))(h1:xs.length=ks.length)(h2:ys.length=ks.length):Ab P (.binOp .neq Tx x y Ty) T E H O (.bool (!decide (xs=ys))):= .AR fun a w o ho _ he _=>by
 have h:=PD (d:=9998) hs w h1 h2
 have h4:=run_eqGuard_agg w .neq Tx x y (HE ks xs).toArray (HE ks ys).toArray h.2
 have h5:=run_neq_struct (P:=P) w Tx (HE ks xs).toArray (HE ks ys).toArray
 rw[h.1]at h5
 simp only[execOp,ho,Sem.run_bind,he x _ hx,he y _ hy,h4,Result.andThen_ok,h5,Sem.run_pure]
end
theorem IC{ops:Array Oper}{a:Act}{j:Nat}{t:Tmp}(hj:Bw ops j=some t)(hv:a.tmps.getD t undef=undef):yielded ops a.tmps j=none:=by
 unfold Bw at hj
 unfold yielded
 rw[hj]
 rw[Array.getD_eq_getD_getElem?]at hv
 cases h:a.tmps[t]? with
 |none=>simp[h]
 |some u=>rw[h]at hv;simp at hv;subst hv;simp[h,undef]
section
variable {P : Program} {Q : Exit → Act → World → Prop} {n : Nat} {L : List (Nat × Value)} {H : Hp} {O : List A2}
theorem Aa.Et{ops:Array Oper}{rest:List Oper}{d t:Tmp}{op:Op}{T:TypeId}{pos:String}{af:Array Edge}{j:Nat}{b:Bool}
  (hj:Bw ops j=some t) (hb:lk L t=some undef) (hd:Nat.blt d n=true) (k:Aa P ops Q rest n ((d,undef)::L) H O):
  Aa P ops Q ({dst:=some d,op,type:=T,pos,after:=af,guard:=some (j,b)} ::rest) n L H O:=fun a w hf hs=>
 wpList_step fun K hK=>by
  rw[if_neg (by simp[Region.wanted,IC hj (hf.get t _ hb)])]
  exact hK _ _ (k _ _ (hf.put hd undef) hs)
theorem Ai.Et{G:Hp→Hp→Prop}{ops:Array Oper}{Z:Act→World→Prop}{rest:List Oper}{LL:List (Nat×SV)}{d t:Tmp}{op:Op}{T:TypeId}{pos:String}{af:Array Edge}{j:Nat}{b:Bool}(hrefl:∀H,G H H)
  (hj:Bw ops j=some t) (hb:RL LL t=some (.is undef)) (hd:Nat.blt d n=true) (k:Ai P G ops Z rest n ((d, .is undef)::LL) H O):
  Ai P G ops Z ({dst:=some d,op,type:=T,pos,after:=af,guard:=some (j,b)} ::rest) n LL H O:=by
 refine Ai.Ng (s:= .is undef) rf ⟨fun _ _ _ _ h=>h,fun d' hd'=>?_,fun H' a w g1 g2 g3 g4 g5 K Q hK=>?_⟩ k
 ·simp at hd';subst hd';simpa using hd
 ·have hjt:=hj
  unfold Bw at hjt
  have ht:a.tmps.getD t undef=undef:=by
   have:=g5 t (by simp[Oper.looksAt,hjt])
   simp only[Pj,hb,SV.sp]at this
   exact this
  rw[if_neg (by simp[Region.wanted,IC hj ht])]
  exact hK _ _ H' (hrefl H') g2 (fun _=>rfl)
theorem Ai.B9{ops:Array Oper}{Z:Act→World→Prop}{rest:List Oper}{LL:List (Nat×SV)}{d t:Tmp}{op:Op}{T:TypeId}{pos:String}{af:Array Edge}{j:Nat}{b:Bool}
 (hj:Bw ops j=some t) (hb:RL LL t=some (.is undef)) (hd:Nat.blt d n=true) (k:Ai P Eq ops Z rest n ((d, .is undef)::LL) H O):
 Ai P Eq ops Z ({dst:=some d,op,type:=T,pos,after:=af,guard:=some (j,b)} ::rest) n LL H O:=Ai.Et (fun _=>rfl) hj hb hd k
end
end Go.GK
namespace Go.GK
def H_(acc:List Nat):List Edge→Nat
 | []=>0
 |e::es=>(if Region.binds .any e then 2^e.on|||acc.getD e.on 0 else 0)|||H_ acc es
def VQ:List Nat→List Oper→List Nat
 |acc,[]=>acc
 |acc,o::os=>VQ (acc++[H_ acc o.after.toList]) os
def Xq(l:List Oper)(i:Nat):Nat:=(VQ [] l).getD i 0
def Kk(l:List Oper)(p:Nat→Bool):Prop:= ∀(j:Nat) (o:Oper),l[j]?=some o→p j=true→∀e∈o.after,Region.binds .any e=true→p e.on=true
theorem IK{acc:List Nat}{j:Nat} :∀ {es:List Edge},(H_ acc es).testBit j=true→∃e∈es,Region.binds .any e=true∧(j=e.on∨(acc.getD e.on 0).testBit j=true)
 | [],h=>by simp[H_]at h
 |e::es,h=>by
  simp only[H_,Nat.testBit_or,Bool.or_eq_true]at h
  rcases h with h|h
  ·split at h
   ·rename_i hb
    simp only[Nat.testBit_or,Bool.or_eq_true,Nat.testBit_two_pow,decide_eq_true_eq]at h
    exact⟨e,by simp,hb,h.imp Eq.symm id⟩
   ·simp at h
  ·obtain⟨e',h1,h2⟩:=IK h
   exact⟨e',by simp[h1],h2⟩
theorem MX{l:List Oper}{p:Nat→Bool}(hc:Kk l p):∀(os:List Oper) (acc:List Nat) (pre:List Oper),l=pre++os→acc.length=pre.length→
  (∀i,i<acc.length→∀o,l[i]?=some o→(∀e∈o.after,Region.binds .any e=true→p e.on=true)→∀j,(acc.getD i 0).testBit j=true→p j=true)→
  IP pre.length os=true→
  ∀i,i<l.length→∀o,l[i]?=some o→(∀e∈o.after,Region.binds .any e=true→p e.on=true)→∀j,((VQ acc os).getD i 0).testBit j=true→p j=true
 | [],acc,pre,hl,hlen,h,_,i,hi,o,ho,hd,j,hj=>by
  subst hl;simp at hi
  exact h i (by omega) o ho hd j hj
 |o::os,acc,pre,hl,hlen,h,hb,i,hi,oi,hoi,hd,j,hj=>by
  simp only[IP,Bool.and_eq_true]at hb
  refine MX hc os _ (pre++[o]) (by simp[hl]) (by simp[hlen]) ?_ (by simpa using hb.2) i hi oi hoi hd j hj
  clear hj hd hoi hi
  intro i hi' oi' hoi hd j hj
  by_cases e:i<acc.length
  ·rw[List.getD_eq_getElem?_getD,List.getElem?_append_left e,←List.getD_eq_getElem?_getD]at hj
   exact h i e oi' hoi hd j hj
  ·have e2:i=acc.length:=by simp at hi';omega
   subst e2
   rw[List.getD_eq_getElem?_getD,List.getElem?_append_right (Nat.le_refl _)]at hj
   simp only[Nat.sub_self,List.getElem?_cons_zero,Option.getD_some]at hj
   obtain⟨e,he,hbi,hj⟩:=IK hj
   have hoo:oi'=o:=by
    rw[hl,hlen,List.getElem?_append_right (Nat.le_refl _)]at hoi
    simpa using hoi.symm
   rw[hoo]at hd
   have he':e∈o.after:=by simpa using he
   have hpe:=hd e he' hbi
   rcases hj with rfl|hj
   ·exact hpe
   ·have hlt:e.on<acc.length:=by
     have:=(Array.all_eq_true_iff_forall_mem.1 hb.1) e he'
     simp[hbi]at this;omega
    have hoe:∃oe,l[e.on]?=some oe:=by
     have:e.on<l.length:=by rw[hl];simp;omega
     exact⟨l[e.on],by simp[this]⟩
    obtain⟨oe,hoe⟩:=hoe
    exact h e.on hlt oe hoe (hc e.on oe hoe hpe) j hj
theorem Pb{l:List Oper}{p:Nat→Bool}(hb:IP 0 l=true)(hc:Kk l p){i:Nat}{o:Oper}(ho:l[i]?=some o)(hd:∀e∈o.after,Region.binds .any e=true→p e.on=true):∀j,(Xq l i).testBit j=true→p j=true:=
 MX hc l [] [] rfl rfl (fun i hi=>by simp at hi) hb i ((List.getElem?_eq_some_iff.1 ho).1) o ho hd
def Sp(p:Nat→Bool)(i:Nat):Nat→Bool:=fun j=>if j=i then true else p j
section
variable {P : Program} {Q : Exit → Act → World → Prop} {l : List Oper}
theorem VP(hb:IP 0 l=true){J:(Nat→Bool)→Act→World→Prop}
  (step:∀p a w i o,l[i]?=some o→p i=false→Kk l p→(∀j,(Xq l i).testBit j=true→p j=true)→(∀j oj,l[j]?=some oj→p j=true→∀m,(Xq l j).testBit m=true→p m=true)→J p a w→
   if Region.wanted o (yielded l.toArray a.tmps)then o.wp P a w (J (Sp p i)) Q else J (Sp p i) (a.put o.dst undef) w)
  (fin:∀p a w,(∀i,i<l.length→p i=true)→J p a w→Q .normal a w):
  ∀(fuel:Nat) (listed:Array Bool) (a:Act) (w:World),listed.size=l.length→Kk l (fun i=>listed.getD i false)→Ia (fun i=>listed.getD i false) l.length=fuel→
   J (fun i=>listed.getD i false) a w→wpAny P .any l.toArray Q fuel listed a w:=by
 have hback:=I' hb
 have allListed:∀(listed:Array Bool),listed.size=l.length→Region.ready .any l.toArray listed=[]→∀i,i<l.length→listed.getD i false=true:=by
  intro listed hsz hr i
  induction i using Nat.strongRecOn with
  |_ i ih=>
   intro hi
   cases hl:listed.getD i false with
   |true=>rfl
   |false=>
    exfalso
    have hmem:i∈Region.ready .any l.toArray listed:=mem_ready.2 ⟨getD_in (by rw[hsz];exact hi) hl,l[i],by simp[hi],fun e he hb=>by
     have:=hback i l[i] (by simp[hi]) e he hb
     exact ih e.on (by omega) (by omega)⟩
    rw[hr]at hmem;cases hmem
 intro fuel
 induction fuel with
 |zero=>
  intro listed a w hsz _ hcount hJ
  have hall:=LW hcount
  have hr:Region.ready .any l.toArray listed=[]:=by
   cases hrr:Region.ready .any l.toArray listed with
   |nil=>rfl
   |cons i rs=>
    exfalso
    have hmem:i∈Region.ready .any l.toArray listed:=by rw[hrr];simp
    obtain⟨hun,oi,hoi,_⟩:=mem_ready.1 hmem
    have hlt:i<l.length:=by simpa using(Array.getElem?_eq_some_iff.1 hoi).1
    have h2:listed.getD i false=true:=hall i hlt
    rw[getD_both hun]at h2;cases h2
  exact⟨hr,fin _ a w hall hJ⟩
 |succ fuel ih=>
  intro listed a w hsz hcl hcount hJ
  refine⟨fun hr=>fin _ a w (allListed listed hsz hr) hJ,fun i hi=>?_⟩
  obtain⟨hun,o,hoi,hdeps⟩:=mem_ready.1 hi
  have hli:l[i]?=some o:=by simpa using hoi
  have hlt:i<l.length:=(List.getElem?_eq_some_iff.1 hli).1
  have hun':=getD_both hun
  have hsz':(listed.setIfInBounds i true).size=l.length:=by simp[hsz]
  have hgi:(listed.setIfInBounds i true).getD i false=true:=by simp[hsz,hlt]
  have hgo:∀j,j≠i→(listed.setIfInBounds i true).getD j false=listed.getD j false:=fun j hj=>getD_set_ne false (Ne.symm hj)
  have hcl':Kk l (fun i_1=>(listed.setIfInBounds i true).getD i_1 false):=by
   intro j oj hj hl e he hb
   show(listed.setIfInBounds i true).getD e.on false=true
   have hl:(listed.setIfInBounds i true).getD j false=true:=hl
   by_cases hji:j=i
   ·subst hji
    have:oj=o:=Option.some.inj (hj.symm.trans hli)
    subst this
    exact getD_set_true (hdeps e he hb)
   ·rw[hgo j hji]at hl
    exact getD_set_true (hcl j oj hj hl e he hb)
  have hcount':Ia (fun j=>(listed.setIfInBounds i true).getD j false) l.length=fuel:=by
   have:=NH (p:=fun j=>listed.getD j false) (q:=fun j=>(listed.setIfInBounds i true).getD j false) hlt hun' hgi hgo
   omega
  have hup:Sp (fun j=>listed.getD j false) i=fun j=>(listed.setIfInBounds i true).getD j false:=by
   funext j
   unfold Sp
   by_cases e:j=i
   ·subst e;rw[if_pos rfl];exact hgi.symm
   ·rw[if_neg e];exact(hgo j e).symm
  have hst:=step (fun j=>listed.getD j false) a w i o hli hun' hcl (Pb hb hcl hli hdeps) (fun j oj hj hp=>Pb hb hcl hj (hcl j oj hj hp)) hJ
  rw[hup]at hst
  refine wpOp_mono (fun a' w' hJ'=>ih _ a' w' hsz' hcl' hcount' hJ') ?_
  unfold wpOp
  simp only[hoi]
  split
  ·rename_i hw;rw[if_pos hw]at hst;exact .inl hst
  ·rename_i hw;rw[if_neg hw]at hst;exact hst
theorem Pl {id : Nat} (hm : P.follows .mixedOrders = true) (hb : IP 0 l = true) {J : (Nat → Bool) → Act → World → Prop}
    (step : ∀ p a w i o, l[i]? = some o → p i = false → Kk l p → (∀ j, (Xq l i).testBit j = true → p j = true) → (∀ j oj, l[j]? = some oj → p j = true → ∀ m, (Xq l j).testBit m = true → p m = true) → J p a w →
      if Region.wanted o (yielded l.toArray a.tmps) then o.wp P a w (J (Sp p i)) Q else J (Sp p i) (a.put o.dst undef) w)
    (fin : ∀ p a w, (∀ i, i < l.length → p i = true) → J p a w → Q .normal a w) {a : Act} {w : World} (h : J (fun _ => false) a { w with drawn := w.drawn + 1 }) :
    (Code.region id l.toArray true).wp P Q a w := by
  refine wp_region_any hm ?_
  have hf : (fun i => (Array.replicate l.length false).getD i false) = fun _ => false := funext fun i => getD_replicate_false _ _
  have := VP hb step fin l.length (Array.replicate l.length false) a { w with drawn := w.drawn + 1 } (by simp) (fun j o _ hj => by rw [hf] at hj; cases hj)
    (by
      rw [hf]
      have : ∀ m, Ia (fun _ => false) m = m := by
        intro m
        induction m with
        | zero => rfl
        | succ m ih =>
          have hu : Ia (fun _ => false) (m + 1) = Ia (fun _ => false) m + 1 := rfl
          rw [hu, ih]
      exact this _)
    (by rw [hf]; exact h)
  simpa using this
end
end Go.GK
namespace Go.GK
structure Out where
 val:Value
 M6:List (Nat×A2)
 fact:Hp→Prop
abbrev Rec:=Nat→Value
def HF(ρ:Rec)(i:Nat)(v:Value):Rec:=fun j=>match Nat.beq j i with
 |true=>v
 |false=>ρ j
def mask(ms:List Nat)(ρ:Rec):Rec:=fun j=>match ms.any (Nat.beq j)with
 |true=>ρ j
 |false=>undef
theorem I4{ms:List Nat}{ρ ρ':Rec}(h:∀m∈ms,ρ m=ρ' m):mask ms ρ=mask ms ρ':=by
 funext j
 unfold mask
 cases hb:ms.any (Nat.beq j)with
 |true=>
  obtain⟨m,hm,he⟩:=List.any_eq_true.1 hb
  have:=Nat.eq_of_beq_eq_true he
  subst this
  exact h _ hm
 |false=>rfl
structure IB where
 rd:List Nat
 wr:List Nat
 ms:List Nat
abbrev Ay:IB:=⟨[],[],[]⟩
def QC:List (Nat×A2)→Nat→Option A2
 | [],_=>none
 |(k,x)::l,r=>match Nat.beq k r with
  |true=>some x
  |false=>QC l r
def Od(X:List A2):List (Nat×A2)→List A2
 | []=>X
 |(r,x)::ts=>(Od X ts).set r x
theorem Lb(X:List A2):∀ts,(Od X ts).length=X.length
 | []=>rfl
 |(r,x)::ts=>by simp[Od,Lb X ts]
theorem Oc(X:List A2)(r:Nat)(hr:r<X.length):∀ts,(Od X ts)[r]?=match QC ts r with|some x=>some x|none=>X[r]?
 | []=>rfl
 |(k,x)::ts=>by
  simp only[Od,QC]
  cases hb:Nat.beq k r with
  |true=>
   have:=Nat.eq_of_beq_eq_true hb
   subst this
   simp[Lb,hr]
  |false=>
   have:=Nat.ne_of_beq_eq_false hb
   rw[List.getElem?_set_ne this,Oc X r hr ts]
def Cp(l:List Nat)(r:Nat):Bool:=l.any (Nat.beq r)
theorem ER{l:List Nat}{r:Nat} :Cp l r=true↔r∈l:=by
 unfold Cp
 rw[List.any_eq_true]
 constructor
 ·rintro⟨x,h,e⟩;have:=Nat.eq_of_beq_eq_true e;subst this;exact h
 ·intro h;exact⟨r,h,by simp⟩
def HC(ops:Array Oper)(x y:Oper)(ax ay:IB):Bool:=meets ops x y||ax.wr.any (fun r=>Cp ay.rd r||Cp ay.wr r)||ay.wr.any (fun r=>Cp ax.rd r)
def SI(ops:Array Oper)(t:Nat)(oj:Oper)(aj:IB):Nat→Nat→List Oper→List IB→Bool
 |0,_,_,_=>true
 |k+1,i,o::os,a::aS=>(!HC ops o oj a aj||t.testBit i)&&SI ops t oj aj k (i+1) os aS
 |_+1,_,_,_=>false
def N6(ops:Array Oper)(l:List Oper)(A:List IB)(N:Nat):Nat→List Nat→List Oper→List IB→Bool
 |_,[],[],[]=>true
 |j,t::ts,o::os,a::aS=>(a.ms.all fun m=>Nat.beq m j||t.testBit m)&&(a.wr.all fun r=>Nat.blt r N)&&(a.rd.all fun r=>Nat.blt r N)&&SI ops t o a j 0 l A&&N6 ops l A N (j+1) ts os aS
 |_,_,_,_=>false
def SL(l:List Oper)(A:List IB)(N:Nat):Bool:=IP 0 l&&N6 l.toArray l A N 0 (VQ [] l) l A
theorem My{ops:Array Oper}{t:Nat}{oj:Oper}{aj:IB} :∀ {k i:Nat} {os:List Oper} {aS:List IB},SI ops t oj aj k i os aS=true→∀(q:Nat) (o:Oper) (a:IB),q<k→os[q]?=some o→aS[q]?=some a→HC ops o oj a aj=true→t.testBit (i+q)=true
 |0,_,_,_,_,q,_,_,h,_,_,_=>by omega
 |k+1,i,o'::os,a'::aS,hb,q,o,a,hq,ho,ha,hc=>by
  simp only[SI,Bool.and_eq_true]at hb
  cases q with
  |zero=>simp at ho ha;subst ho ha;rw[hc]at hb;simpa using hb.1
  |succ q=>
   have:=My hb.2 q o a (by omega) (by simpa using ho) (by simpa using ha) hc
   rwa [show i+1+q=i+(q+1) by omega]at this
 |k+1,i,[],_,hb,q,o,a,_,ho,_,_=>by simp at ho
 |k+1,i,_::_,[],hb,q,o,a,_,_,ha,_=>by simp at ha
theorem JZ{ops:Array Oper}{l:List Oper}{A:List IB}{N:Nat} :∀ {j:Nat} {ts:List Nat} {os:List Oper} {aS:List IB},N6 ops l A N j ts os aS=true→
  aS.length=os.length∧ts.length=os.length∧∀(q:Nat) (o:Oper) (a:IB),os[q]?=some o→aS[q]?=some a→
   (∀m∈a.ms,m=j+q∨(ts.getD q 0).testBit m=true)∧(∀r∈a.wr,r<N)∧(∀r∈a.rd,r<N)∧SI ops (ts.getD q 0) o a (j+q) 0 l A=true
 |j,[],[],[],_=>⟨rfl,rfl,fun q o a h=>by simp at h⟩
 |j,t::ts,o::os,a::aS,h=>by
  simp only[N6,Bool.and_eq_true]at h
  obtain⟨⟨⟨⟨h1,h2⟩,h3⟩,h4⟩,h5⟩:=h
  obtain⟨k1,k2,k3⟩:=JZ h5
  refine⟨by simp[k1],by simp[k2],fun q o' a' ho ha=>?_⟩
  cases q with
  |zero=>
   simp at ho ha;subst ho ha
   refine⟨fun m hm=>?_,fun r hr=>?_,fun r hr=>?_,h4⟩
   ·have:=List.all_eq_true.1 h1 m hm
    simp only[Bool.or_eq_true]at this
    rcases this with h|h
    ·exact .inl (Nat.eq_of_beq_eq_true h)
    ·exact .inr h
   ·have:=List.all_eq_true.1 h2 r hr;simpa using this
   ·have:=List.all_eq_true.1 h3 r hr;simpa using this
  |succ q=>
   have:=k3 q o' a' (by simpa using ho) (by simpa using ha)
   rwa [show j+1+q=j+(q+1) by omega]at this
 |_,[],[],_::_,h=>by simp[N6]at h
 |_,[],_::_,_,h=>by simp[N6]at h
 |_,_::_,[],_,h=>by simp[N6]at h
 |_,_::_,_::_,[],h=>by simp[N6]at h
def Hc(l:List Oper)(od:Nat→Rec→Out)(L:List (Nat×Value))(p:Nat→Bool)(ρ:Rec)(t:Nat):Nat→Option Value
 |0=>lk L t
 |j+1=>if p j=true∧(l[j]?).bind (·.dst)=some t then some (od j ρ).val else Hc l od L p ρ t j
def GI(A:List IB)(od:Nat→Rec→Out)(X:List A2)(p:Nat→Bool)(ρ:Rec)(r:Nat):Nat→Option A2
 |0=>X[r]?
 |j+1=>if p j=true∧((A[j]?).map fun a=>Cp a.wr r)=some true then QC (od j ρ).M6 r else GI A od X p ρ r j
theorem Gj{l:List Oper}{od od':Nat→Rec→Out}{L:List (Nat×Value)}{p q:Nat→Bool}{ρ ρ':Rec}{t:Nat} :∀i,(∀j,j<i→(l[j]?).bind (·.dst)=some t→p j=q j∧(p j=true→od j ρ=od' j ρ'))→Hc l od L p ρ t i=Hc l od' L q ρ' t i
 |0,_=>rfl
 |i+1,h=>by
  unfold Hc
  rw[Gj i fun j hj ht=>h j (by omega) ht]
  by_cases ht:(l[i]?).bind (·.dst)=some t
  ·obtain⟨h1,h2⟩:=h i (by omega) ht
   cases hp:p i with
   |true=>rw[←h1,hp,h2 hp]
   |false=>rw[←h1,hp];simp
  ·simp[ht]
theorem Gk{A:List IB}{od od':Nat→Rec→Out}{X:List A2}{p q:Nat→Bool}{ρ ρ':Rec}{r:Nat} :∀i,(∀j,j<i→((A[j]?).map fun a=>Cp a.wr r)=some true→p j=q j∧(p j=true→od j ρ=od' j ρ'))→GI A od X p ρ r i=GI A od' X q ρ' r i
 |0,_=>rfl
 |i+1,h=>by
  unfold GI
  rw[Gk i fun j hj ht=>h j (by omega) ht]
  by_cases ht:((A[i]?).map fun a=>Cp a.wr r)=some true
  ·obtain⟨h1,h2⟩:=h i (by omega) ht
   cases hp:p i with
   |true=>rw[←h1,hp,h2 hp]
   |false=>rw[←h1,hp];simp
  ·simp[ht]
theorem JK {l : List Oper} {od : Nat → Rec → Out} {L : List (Nat × Value)} {p : Nat → Bool} {ρ : Rec} {t i : Nat} : ∀ k, i ≤ k → (∀ j, i ≤ j → j < k → (l[j]?).bind (·.dst) = some t → p j = false) → Hc l od L p ρ t k = Hc l od L p ρ t i
  | 0, h, _ => by have : i = 0 := by omega
                  subst this; rfl
  | k + 1, h, hp => by
    by_cases e : i = k + 1
    · subst e; rfl
    · have hu : Hc l od L p ρ t (k + 1) = if p k = true ∧ (l[k]?).bind (·.dst) = some t then some (od k ρ).val else Hc l od L p ρ t k := rfl
      rw [hu, if_neg (fun ⟨h1, h2⟩ => by have := hp k (by omega) (by omega) h2; rw [this] at h1; cases h1)]
      exact JK k (by omega) fun j h1 h2 h3 => hp j h1 (by omega) h3
theorem JL {A : List IB} {od : Nat → Rec → Out} {X : List A2} {p : Nat → Bool} {ρ : Rec} {r i : Nat} : ∀ k, i ≤ k → (∀ j, i ≤ j → j < k → ((A[j]?).map fun a => Cp a.wr r) = some true → p j = false) → GI A od X p ρ r k = GI A od X p ρ r i
  | 0, h, _ => by have : i = 0 := by omega
                  subst this; rfl
  | k + 1, h, hp => by
    by_cases e : i = k + 1
    · subst e; rfl
    · have hu : GI A od X p ρ r (k + 1) = if p k = true ∧ ((A[k]?).map fun a => Cp a.wr r) = some true then QC (od k ρ).M6 r else GI A od X p ρ r k := rfl
      rw [hu, if_neg (fun ⟨h1, h2⟩ => by have := hp k (by omega) (by omega) h2; rw [this] at h1; cases h1)]
      exact JL k (by omega) fun j h1 h2 h3 => hp j h1 (by omega) h3
structure Sa(P:Program)(ops:Array Oper)(n N:Nat)(H:Hp)(O:List A2)(i:Nat)(o:Oper)(an:IB)(S:Rec→Nat→Option Value)(R:Rec→Nat→Option A2)(F:Rec→Nat→Hp→Prop)(od:Rec→Out):Prop where
 dst:∀d,o.dst=some d→d<n
 Wz:∀ρ,od (mask an.ms ρ)=od ρ
 mono:∀ρ H' H'',H'.le H''→(od ρ).fact H'→(od ρ).fact H''
 run:∀(H':Hp) (ρ:Rec) (Y:List A2) (a:Act) (w:World),H.le H'→(∀m,m∈an.ms→m≠i→F ρ m H')→Y.length=N→(∀t∈o.looksAt ops,∀v,S ρ t=some v→a.tmps.getD t undef=v)→
  (∀r,(Cp an.rd r=true∨Cp an.wr r=true)→∀x,R ρ r=some x→Y[r]?=some x)→SH w H' (Y++O)→a.defers=[]→a.tmps.size=n→
  ∀(K:Act→World→Prop) (Q:Exit→Act→World→Prop),(∀v w' H'' Y',H'.le H''→SH w' H'' (Y'++O)→Y'.length=N→(∀r,Cp an.wr r=false→Y'[r]?=Y[r]?)→
   (∀r x,Cp an.wr r=true→QC (od (HF ρ i v)).M6 r=some x→Y'[r]?=some x)→(od (HF ρ i v)).fact H''→(o.dst.isSome=true→(od (HF ρ i v)).val=v)→K (a.put o.dst v) w')→
   if Region.wanted o (yielded ops a.tmps)then o.wp P a w K Q else K (a.put o.dst undef) w
structure JO(l:List Oper)(A:List IB)(od:Nat→Rec→Out)(L:List (Nat×Value))(X:List A2)(H:Hp)(O:List A2)(n N:Nat)(p:Nat→Bool)(a:Act)(w:World):Prop where
 ex:∃H' ρ Y,H.le H'∧SH w H' (Y++O)∧Y.length=N∧a.defers=[]∧a.tmps.size=n∧(∀t v,Hc l od L p ρ t l.length=some v→a.tmps.getD t undef=v)∧
  (∀r x,r<N→GI A od X p ρ r l.length=some x→Y[r]?=some x)∧(∀j,p j=true→j<l.length∧(od j ρ).fact H')
theorem GP(ρ:Rec)(i:Nat)(v:Value):HF ρ i v i=v:=by simp[HF]
theorem Ps{ρ:Rec}{i j:Nat}{v:Value}(h:j≠i):HF ρ i v j=ρ j:=by
 unfold HF
 cases hb:Nat.beq j i with
 |true=>exact absurd (Nat.eq_of_beq_eq_true hb) h
 |false=>rfl
theorem Wt{P:Program}{Q:Exit→Act→World→Prop}{id:Nat}{l:List Oper}{A:List IB}{n N:Nat}{H:Hp}{O:List A2}{L:List (Nat×Value)}{X:List A2}{od:Nat→Rec→Out}
  (hm:P.follows .mixedOrders=true) (hOK:SL l A N=true)
  (hl:∀i o an,l[i]?=some o→A[i]?=some an→Sa P l.toArray n N H O i o an (fun ρ t=>Hc l od L (fun _=>true) ρ t i) (fun ρ r=>GI A od X (fun _=>true) ρ r i) (fun ρ m=>(od m ρ).fact) (od i))
  (fin:∀H' ρ Y a w,H.le H'→(∀j,j<l.length→(od j ρ).fact H')→Y.length=N→(∀r x,r<N→GI A od X (fun _=>true) ρ r l.length=some x→Y[r]?=some x)→SH w H' (Y++O)→a.defers=[]→a.tmps.size=n→
   (∀t v,Hc l od L (fun _=>true) ρ t l.length=some v→a.tmps.getD t undef=v)→Q .normal a w)
  {a:Act} {w:World} (hX:X.length=N) (hs:SH w H (X++O)) (hf:Fr a n L):(Code.region id l.toArray true).wp P Q a w:=by
 unfold SL at hOK
 rw[Bool.and_eq_true]at hOK
 obtain⟨hb,htab⟩:=hOK
 obtain⟨hlen,_,hspec⟩:=JZ htab
 have hAn:∀i o,l[i]?=some o→∃an,A[i]?=some an:=fun i o ho=>by
  have:i<A.length:=by rw[hlen];exact(List.getElem?_eq_some_iff.1 ho).1
  exact⟨A[i],List.getElem?_eq_getElem this⟩
 have hms:∀i o an,l[i]?=some o→A[i]?=some an→∀m∈an.ms,m=i∨(Xq l i).testBit m=true:=fun i o an ho ha m hm=>by
  have:=(hspec i o an ho ha).1 m hm
  rwa [Nat.zero_add]at this
 have hconf:∀i j oi oj ai aj,l[i]?=some oi→l[j]?=some oj→A[i]?=some ai→A[j]?=some aj→i<j→HC l.toArray oi oj ai aj=true→(Xq l j).testBit i=true:=fun i j oi oj ai aj hi hj hai haj hij hc=>by
  have:=(hspec j oj aj hj haj).2.2.2
  rw[Nat.zero_add]at this
  have:=My this i oi ai hij hi hai hc
  rwa [Nat.zero_add]at this
 refine Pl hm hb (J:=JO l A od L X H O n N) ?_ ?_ ?_
 ·intro p a w i o hli hpi hcl hanc hancs ⟨H',ρ,Y,h1,h2,h3,h4,h5,h6,h7,h8⟩
  obtain⟨an,hai⟩:=hAn i o hli
  have hlt:i<l.length:=(List.getElem?_eq_some_iff.1 hli).1
  have hloc:=hl i o an hli hai
  have hwrN:=(hspec i o an hli hai).2.1
  have hrdN:=(hspec i o an hli hai).2.2.1
  have stable:∀j oj,l[j]?=some oj→p j=true→∀v,od j (HF ρ i v)=od j ρ:=fun j oj hj hpj v=>by
   obtain⟨aj,haj⟩:=hAn j oj hj
   have hst:=(hl j oj aj hj haj).Wz
   rw[←hst (HF ρ i v),←hst ρ]
   congr 1
   refine I4 fun m hm=>Ps fun e=>?_
   subst e
   rcases hms j oj aj hj haj m hm with e|e
   ·subst e;rw[hpi]at hpj;cases hpj
   ·rw[hancs j oj hj hpj m e]at hpi;cases hpi
  have later:∀j oj aj,l[j]?=some oj→A[j]?=some aj→i<j→HC l.toArray o oj an aj=true→p j=false:=fun j oj aj hj haj hij hc=>by
   cases hp:p j with
   |false=>rfl
   |true=>rw[hancs j oj hj hp i (hconf i j o oj an aj hli hj hai haj hij hc)]at hpi;cases hpi
  have earlier:∀j oj aj,l[j]?=some oj→A[j]?=some aj→j<i→HC l.toArray oj o aj an=true→p j=true:=fun j oj aj hj haj hij hc=>
   hanc j (hconf j i oj o aj an hj hli haj hai hij hc)
  have dstOf:∀(j t:Nat),(l[j]?).bind (fun x:Oper=>x.dst)=some t→∃(oj:Oper) (aj:IB),l[j]?=some oj∧A[j]?=some aj∧oj.dst=some t:=fun j t h=>by
   cases hj:l[j]? with
   |none=>rw[hj]at h;cases h
   |some oj=>rw[hj]at h;obtain⟨aj,haj⟩:=hAn j oj hj;exact⟨oj,aj,rfl,haj,h⟩
  have wrOf:∀(j r:Nat),j<l.length→((A[j]?).map fun a=>Cp a.wr r)=some true→∃(oj:Oper) (aj:IB),l[j]?=some oj∧A[j]?=some aj∧Cp aj.wr r=true:=fun j r hj h=>by
   cases ha:A[j]? with
   |none=>rw[ha]at h;cases h
   |some aj=>rw[ha]at h;exact⟨l[j],aj,by simp[hj],rfl,by simpa using h⟩
  have conf_wr:∀(x y:Oper) (ax ay:IB) (r:Nat),Cp ax.wr r=true→(Cp ay.rd r=true∨Cp ay.wr r=true)→HC l.toArray x y ax ay=true:=fun x y ax ay r h1 h2=>by
   unfold HC
   have:ax.wr.any (fun r=>Cp ay.rd r||Cp ay.wr r)=true:=List.any_eq_true.2 ⟨r,ER.1 h1,by rcases h2 with h|h<;>simp[h]⟩
   simp[this]
  have conf_rd:∀(x y:Oper) (ax ay:IB) (r:Nat),Cp ay.wr r=true→(Cp ax.rd r=true∨Cp ax.wr r=true)→HC l.toArray x y ax ay=true:=fun x y ax ay r h1 h2=>by
   rcases h2 with h2|h2
   ·unfold HC
    have:ay.wr.any (fun r=>Cp ax.rd r)=true:=List.any_eq_true.2 ⟨r,ER.1 h1,h2⟩
    simp[this]
   ·exact conf_wr x y ax ay r h2 (.inr h1)
  have hslots:∀t∈o.looksAt l.toArray,∀v,Hc l od L (fun _=>true) ρ t i=some v→a.tmps.getD t undef=v:=fun t ht v hv=>by
   refine h6 t v ?_
   rw[JK (i:=i) l.length (by omega) (fun j hij hjk hd=>by
    by_cases hji:j=i
    ·subst hji;exact hpi
    ·obtain⟨oj,aj,hj,haj,hdj⟩:=dstOf j t hd
     refine later j oj aj hj haj (by omega) ?_
     unfold HC;simp only[meets,hdj,Dz ht,Bool.or_true,Bool.true_or])]
   rw[Gj (q:=fun _=>true) (ρ':=ρ) i (fun j hj hd=>by
    obtain⟨oj,aj,hj',haj,hdj⟩:=dstOf j t hd
    refine⟨earlier j oj aj hj' haj hj ?_,fun _=>rfl⟩
    unfold HC;simp only[meets,hdj,Dz ht,Bool.true_or])]
   exact hv
  have hregs:∀r,(Cp an.rd r=true∨Cp an.wr r=true)→∀x,GI A od X (fun _=>true) ρ r i=some x→Y[r]?=some x:=fun r hr x hx=>by
   refine h7 r x (hr.elim (fun h=>hrdN r (ER.1 h)) (fun h=>hwrN r (ER.1 h))) ?_
   rw[JL (i:=i) l.length (by omega) (fun j hij hjk hd=>by
    by_cases hji:j=i
    ·subst hji;exact hpi
    ·obtain⟨oj,aj,hj,haj,hdj⟩:=wrOf j r hjk hd
     exact later j oj aj hj haj (by omega) (conf_rd _ _ _ _ r hdj hr))]
   rw[Gk (q:=fun _=>true) (ρ':=ρ) i (fun j hj hd=>by
    obtain⟨oj,aj,hj',haj,hdj⟩:=wrOf j r (by omega) hd
    exact⟨earlier j oj aj hj' haj hj (conf_wr _ _ _ _ r hdj hr),fun _=>rfl⟩)]
   exact hx
  have hfacts:∀m,m∈an.ms→m≠i→(od m ρ).fact H':=fun m hm hne=>by
   rcases hms i o an hli hai m hm with e|e
   ·exact absurd e hne
   ·exact(h8 m (hanc m e)).2
  have hK:∀v w' H'' Y',H'.le H''→SH w' H'' (Y'++O)→Y'.length=N→(∀r,Cp an.wr r=false→Y'[r]?=Y[r]?)→
    (∀r x,Cp an.wr r=true→QC (od i (HF ρ i v)).M6 r=some x→Y'[r]?=some x)→(od i (HF ρ i v)).fact H''→(o.dst.isSome=true→(od i (HF ρ i v)).val=v)→JO l A od L X H O n N (Sp p i) (a.put o.dst v) w':=by
   intro v w' H'' Y' k1 k2 k3 k4 k5 k6 k7
   have hup:∀j,j≠i→Sp p i j=p j:=fun j hj=>by simp[Sp,hj]
   have hupi:Sp p i i=true:=by simp[Sp]
   refine⟨H'',HF ρ i v,Y',h1.trans k1,k2,k3,?_,?_,fun t u hu=>?_,fun r x hr hx=>?_,fun j hj=>?_⟩
   ·cases o.dst<;>exact h4
   ·cases o.dst<;>simp[Act.put,h5]
   ·by_cases hdt:o.dst=some t
    ·rw[JK (i:=i+1) l.length (by omega) (fun j hij hjk hd=>by
      obtain⟨oj,aj,hj',haj,hdj⟩:=dstOf j t hd
      rw[hup j (by omega)]
      refine later j oj aj hj' haj (by omega) ?_
      unfold HC;simp only[meets,hdt,G8 hdj,Bool.true_or])]at hu
     unfold Hc at hu
     rw[if_pos ⟨hupi,by simp[hli,hdt]⟩]at hu
     injection hu with hu
     rw[k7 (by simp[hdt])]at hu
     subst hu
     rw[hdt];exact Kt (by rw[h5];exact hloc.dst t hdt)
    ·rw[Ks hdt]
     refine h6 t u ?_
     rw[←hu]
     exact Gj l.length fun j hj hd=>by
      obtain⟨oj,aj,hj',haj,hdj⟩:=dstOf j t hd
      have hji:j≠i:=fun e=>by subst e;rw[hli]at hj';injection hj' with e;subst e;exact hdt hdj
      exact⟨(hup j hji).symm,fun hp=>(stable j oj hj' hp v).symm⟩
   ·by_cases hr':Cp an.wr r=true
    ·rw[JL (i:=i+1) l.length (by omega) (fun j hij hjk hd=>by
      obtain⟨oj,aj,hj',haj,hdj⟩:=wrOf j r hjk hd
      rw[hup j (by omega)]
      exact later j oj aj hj' haj (by omega) (conf_wr _ _ _ _ r hr' (.inr hdj)))]at hx
     unfold GI at hx
     rw[if_pos ⟨hupi,by simp[hai,hr']⟩]at hx
     exact k5 r x hr' hx
    ·have hr'':Cp an.wr r=false:=by simpa using hr'
     rw[k4 r hr'']
     refine h7 r x hr ?_
     rw[←hx]
     exact Gk l.length fun j hj hd=>by
      obtain⟨oj,aj,hj',haj,hdj⟩:=wrOf j r hj hd
      have hji:j≠i:=fun e=>by subst e;rw[hai]at haj;injection haj with e;subst e;exact hr' hdj
      exact⟨(hup j hji).symm,fun hp=>(stable j oj hj' hp v).symm⟩
   ·by_cases hji:j=i
    ·subst hji;exact⟨hlt,k6⟩
    ·rw[hup j hji]at hj
     obtain⟨q1,q2⟩:=h8 j hj
     refine⟨q1,?_⟩
     rw[stable j l[j] (by simp[q1]) hj v]
     exact(hl j l[j] (A[j]'(by omega)) (by simp[q1]) (by simp[hlen,q1])).mono ρ H' H'' k1 q2
  exact hloc.run H' ρ Y a w h1 hfacts h3 hslots hregs h2 h4 h5 _ Q hK
 ·intro p a w hall ⟨H',ρ,Y,h1,h2,h3,h4,h5,h6,h7,h8⟩
  refine fin H' ρ Y a w h1 (fun j hj=>(h8 j (hall j hj)).2) h3 (fun r x hr hx=>h7 r x hr ?_) h2 h4 h5 (fun t v hv=>h6 t v ?_)
  ·rw[Gk (q:=fun _=>true) (ρ':=ρ) l.length fun j hj _=>⟨hall j hj,fun _=>rfl⟩];exact hx
  ·rw[Gj (q:=fun _=>true) (ρ':=ρ) l.length fun j hj _=>⟨hall j hj,fun _=>rfl⟩];exact hv
 ·refine⟨H,fun _=>undef,X,Hp.le.refl H,hs.drew,hX,hf.defers,hf.size,fun t v hv=>hf.get t v ?_,fun r x hr hx=>?_,fun j hj=>by cases hj⟩
  ·rwa [JK (i:=0) l.length (Nat.zero_le _) (fun j _ _ _=>rfl)]at hv
  ·rwa [JL (i:=0) l.length (Nat.zero_le _) (fun j _ _ _=>rfl)]at hx
end Go.GK
namespace Go.GK
def U5(d:Option Tmp)(v:Value)(L:List (Nat×Value)):List (Nat×Value):=match d with
 |some d=>(d,v)::L
 |none=>L
def V_:List (Nat×(Rec→Hp→Prop))→Rec→Hp→Nat→Prop
 | [],_,_,_=>True
 |(k,f)::l,ρ,H,m=>match Nat.beq k m with
  |true=>f ρ H
  |false=>V_ l ρ H m
def Af(P:Program)(ops:Array Oper)(Q:Exit→Act→World→Prop)(n N:Nat)(H:Hp)(O:List A2):Nat→List Oper→List IB→(Rec→List (Nat×Value))→(Rec→List A2)→List (Nat×(Rec→Hp→Prop))→Prop
 |_,[],_,LL,XX,FF=> ∀H' ρ,H.le H'→(∀m,V_ FF ρ H' m)→At Q .normal n (LL ρ) H' (XX ρ++O)
 |_,_::_,[],_,_,_=>False
 |i,o::os,an::aS,LL,XX,FF=> ∃od:Rec→Out,Sa P ops n N H O i o an (fun ρ t=>lk (LL ρ) t) (fun ρ r=>(XX ρ)[r]?) (fun ρ m H'=>V_ FF ρ H' m) od∧(∀ρ,(od ρ).M6.map (·.1)=an.wr)∧
  Af P ops Q n N H O (i+1) os aS (fun ρ=>U5 o.dst (od ρ).val (LL ρ)) (fun ρ=>Od (XX ρ) (od ρ).M6) ((i,fun ρ=>(od ρ).fact)::FF)
theorem Tp{ts:List (Nat×A2)}{r:Nat}(h:Cp (ts.map (·.1)) r=false):QC ts r=none:=by
 induction ts with
 |nil=>rfl
 |cons p ts ih=>
  obtain⟨k,x⟩:=p
  simp only[List.map_cons,Cp,List.any_cons,Bool.or_eq_false_iff]at h
  simp only[QC]
  cases hb:Nat.beq k r with
  |true=>
   have:=Nat.eq_of_beq_eq_true hb
   subst this
   have:=h.1;simp at this
  |false=>exact ih h.2
theorem To{ts:List (Nat×A2)}{r:Nat}(h:Cp (ts.map (·.1)) r=true):∃x,QC ts r=some x:=by
 induction ts with
 |nil=>simp[Cp]at h
 |cons p ts ih=>
  obtain⟨k,x⟩:=p
  simp only[QC]
  cases hb:Nat.beq k r with
  |true=>exact⟨x,rfl⟩
  |false=>
   simp only[List.map_cons,Cp,List.any_cons,Bool.or_eq_true]at h
   rcases h with h|h
   ·have:=Nat.eq_of_beq_eq_true h;subst this;simp at hb
   ·exact ih h
theorem Sa.congr{P:Program}{ops:Array Oper}{n N:Nat}{H:Hp}{O:List A2}{i:Nat}{o:Oper}{an:IB}{S S':Rec→Nat→Option Value}{R R':Rec→Nat→Option A2}{F F':Rec→Nat→Hp→Prop}{od:Rec→Out}
  (h:Sa P ops n N H O i o an S R F od) (hS:∀ρ t v,S ρ t=some v→S' ρ t=some v) (hR:∀ρ r x,R ρ r=some x→R' ρ r=some x) (hF:∀ρ H',(∀m,m∈an.ms→m≠i→F' ρ m H')→(∀m,m∈an.ms→m≠i→F ρ m H')):
  Sa P ops n N H O i o an S' R' F' od where
 dst:=h.dst
 Wz:=h.Wz
 mono:=h.mono
 run H' ρ Y a w h1 h2 h3 h4 h5:=h.run H' ρ Y a w h1 (hF ρ H' h2) h3 (fun t ht v hv=>h4 t ht v (hS ρ t v hv)) (fun r hr x hx=>h5 r hr x (hR ρ r x hx))
theorem Af.get{P:Program}{ops:Array Oper}{Q:Exit→Act→World→Prop}{n N:Nat}{H:Hp}{O:List A2}{l:List Oper}{A:List IB}{L:List (Nat×Value)}{X:List A2}(hlen:A.length=l.length):
  ∀(os:List Oper) (aS:List IB) (i:Nat) (odp:Nat→Rec→Out) (LL:Rec→List (Nat×Value)) (XX:Rec→List A2) (FF:List (Nat×(Rec→Hp→Prop))),l.drop i=os→A.drop i=aS→i≤l.length→
   (∀ρ t,lk (LL ρ) t=Hc l odp L (fun _=>true) ρ t i)→(∀ρ r x,(XX ρ)[r]?=some x→GI A odp X (fun _=>true) ρ r i=some x)→(∀ρ,(XX ρ).length=N)→(∀ρ r,r<N→(XX ρ)[r]?=GI A odp X (fun _=>true) ρ r i)→
   (∀m ρ H',(m<i→(odp m ρ).fact H')→V_ FF ρ H' m)→Af P ops Q n N H O i os aS LL XX FF→
   ∃od:Nat→Rec→Out,(∀j,j<i→od j=odp j)∧
    (∀j o an,i≤j→l[j]?=some o→A[j]?=some an→Sa P ops n N H O j o an (fun ρ t=>Hc l od L (fun _=>true) ρ t j) (fun ρ r=>GI A od X (fun _=>true) ρ r j) (fun ρ m=>(od m ρ).fact) (od j))∧
    ∃(LLf:Rec→List (Nat×Value)) (XXf:Rec→List A2),(∀ρ t,lk (LLf ρ) t=Hc l od L (fun _=>true) ρ t l.length)∧(∀ρ,(XXf ρ).length=N)∧(∀ρ r,r<N→(XXf ρ)[r]?=GI A od X (fun _=>true) ρ r l.length)∧
     ∀H' ρ,H.le H'→(∀j,j<l.length→(od j ρ).fact H')→At Q .normal n (LLf ρ) H' (XXf ρ++O)
 | [],aS,i,odp,LL,XX,FF,hl,hA,hi,hS,hR,hX,hR2,hF,h=>by
  have hil:i=l.length:=by
   have:=congrArg List.length hl
   simp at this;omega
  subst hil
  refine⟨odp,fun _ _=>rfl,fun j o an hj ho _=>?_,LL,XX,hS,hX,hR2,fun H' ρ hle hf=>h H' ρ hle fun m=>hF m ρ H' (hf m)⟩
  have:=(List.getElem?_eq_some_iff.1 ho).1
  omega
 |o::os,[],i,odp,LL,XX,FF,hl,hA,hi,hS,hR,hX,hR2,hF,h=>h.elim
 |o::os,an::aS,i,odp,LL,XX,FF,hl,hA,hi,hS,hR,hX,hR2,hF,⟨od0,hloc,hwr,h⟩=>by
  have hli:l[i]?=some o:=by
   have:=congrArg (·[0]?) hl
   simpa using this
  have hai:A[i]?=some an:=by
   have:=congrArg (·[0]?) hA
   simpa using this
  have hlt:i<l.length:=(List.getElem?_eq_some_iff.1 hli).1
  let od1:Nat→Rec→Out:=fun j=>if j=i then od0 else odp j
  have e1:od1 i=od0:=if_pos rfl
  have e2:∀j,j<i→od1 j=odp j:=fun j hj=>if_neg (by omega)
  have cS:∀(od:Nat→Rec→Out),(∀j,j<i→od j=odp j)→∀ρ t,Hc l odp L (fun _=>true) ρ t i=Hc l od L (fun _=>true) ρ t i:=fun od hod ρ t=>
   Gj i fun j hj _=>⟨rfl,fun _=>by rw[hod j hj]⟩
  have cR:∀(od:Nat→Rec→Out),(∀j,j<i→od j=odp j)→∀ρ r,GI A odp X (fun _=>true) ρ r i=GI A od X (fun _=>true) ρ r i:=fun od hod ρ r=>
   Gk i fun j hj _=>⟨rfl,fun _=>by rw[hod j hj]⟩
  have sucS:∀ρ t,lk (U5 o.dst (od0 ρ).val (LL ρ)) t=Hc l od1 L (fun _=>true) ρ t (i+1):=fun ρ t=>by
   unfold Hc
   rw[hli,e1,←cS od1 e2,←hS ρ t]
   simp only[Option.bind_some,true_and]
   unfold U5
   cases ho:o.dst with
   |none=>simp
   |some d=>
    simp only[lk,Option.some.injEq]
    cases hb:Nat.beq d t with
    |true=>rw[if_pos (Nat.eq_of_beq_eq_true hb)]
    |false=>rw[if_neg (Nat.ne_of_beq_eq_false hb)]
  have sucR2:∀ρ r,r<N→(Od (XX ρ) (od0 ρ).M6)[r]?=GI A od1 X (fun _=>true) ρ r (i+1):=fun ρ r hr=>by
   unfold GI
   rw[hai,e1,←cR od1 e2,Oc _ _ (by rw[hX];exact hr),←hR2 ρ r hr]
   simp only[Option.map_some,true_and,Option.some.injEq]
   by_cases hm:Cp an.wr r=true
   ·rw[if_pos hm]
    obtain⟨x,hx⟩:=To (ts:=(od0 ρ).M6) (r:=r) (by rw[hwr];exact hm)
    rw[hx]
   ·rw[if_neg hm,Tp (by rw[hwr];simpa using hm)]
  have sucX:∀ρ,(Od (XX ρ) (od0 ρ).M6).length=N:=fun ρ=>by rw[Lb,hX]
  obtain⟨od,g1,g2,LLf,XXf,g3⟩:=Af.get hlen os aS (i+1) od1 _ _ _ (by rw[←List.drop_drop,hl];rfl) (by rw[←List.drop_drop,hA];rfl) hlt sucS
   (fun ρ r x hx=>by
    have hr:r<N:=by rw[←sucX ρ];exact(List.getElem?_eq_some_iff.1 hx).1
    rw[←sucR2 ρ r hr];exact hx) sucX sucR2
   (fun m ρ H' hm=>by
    simp only[V_]
    cases hb:Nat.beq i m with
    |true=>
     have:=Nat.eq_of_beq_eq_true hb
     subst this
     have:=hm (by omega)
     rwa [e1]at this
    |false=>
     have:=Nat.ne_of_beq_eq_false hb
     exact hF m ρ H' fun hlt=>by have:=hm (by omega);rwa [e2 m hlt]at this) h
  have g1':∀j,j<i→od j=odp j:=fun j hj=>by rw[g1 j (by omega),e2 j hj]
  refine⟨od,g1',fun j o' an' hj ho ha=>?_,LLf,XXf,g3⟩
  by_cases e:j=i
  ·subst e
   rw[hli]at ho;injection ho with ho;subst ho
   rw[hai]at ha;injection ha with ha;subst ha
   rw[g1 j (by omega),e1]
   refine hloc.congr (fun ρ t v hv=>?_) (fun ρ r x hx=>?_) (fun ρ H' hf m hm hne=>?_)
   ·rw[hS ρ t,cS od g1']at hv;exact hv
   ·have:=hR ρ r x hx;rw[cR od g1']at this;exact this
   ·refine hF m ρ H' fun hlt=>?_
    rw[←g1' m hlt];exact hf m hm hne
  ·exact g2 j o' an' (by omega) ho ha
theorem Af.run{P:Program}{Q:Exit→Act→World→Prop}{id:Nat}{l:List Oper}{n N:Nat}{H:Hp}{O X:List A2}{L:List (Nat×Value)}(A:List IB)(hm:P.follows .mixedOrders=true)(hN:X.length=N)(hOK:SL l A N=true)
  (h:Af P l.toArray Q n N H O 0 l A (fun _=>L) (fun _=>X) []):Wp P (.region id l.toArray true) Q n L H (X++O):=by
 intro a w hf hs
 have htab:=hOK
 unfold SL at htab
 rw[Bool.and_eq_true]at htab
 obtain⟨hlen,_,_⟩:=JZ htab.2
 obtain⟨od,_,hl,LLf,XXf,h1,h2,h3,h4⟩:=Af.get (L:=L) (X:=X) hlen l A 0 (fun _ _=>⟨undef,[],fun _=>True⟩) (fun _=>L) (fun _=>X) [] rfl rfl (Nat.zero_le _) (fun _ _=>rfl) (fun _ _ _ h=>h) (fun _=>hN) (fun _ _ _=>rfl) (fun _ _ _ _=>trivial) h
 refine Wt hm hOK (fun i o an ho ha=>hl i o an (Nat.zero_le _) ho ha) (fun H' ρ Y a w g1 g2 g3 g4 g5 g6 g7 g8=>?_) hN hs hf
 refine h4 H' ρ g1 g2 a w ⟨g6,g7,fun t v hv=>g8 t v (by rw[←h1];exact hv)⟩ ?_
 have:Y=XXf ρ:=by
  apply List.ext_getElem?
  intro r
  by_cases hr:r<N
  ·have h5:(XXf ρ)[r]?=some ((XXf ρ)[r]'(by rw[h2];exact hr)):=by simp
   rw[h5]
   exact g4 r _ hr (by rw[←h3 ρ r hr];exact h5)
  ·rw[List.getElem?_eq_none (by omega),List.getElem?_eq_none (by rw[h2];omega)]
 rw[←this];exact g5
end Go.GK
