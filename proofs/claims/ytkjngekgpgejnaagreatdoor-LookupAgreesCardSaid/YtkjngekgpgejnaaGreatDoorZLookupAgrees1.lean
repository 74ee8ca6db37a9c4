/- Part 1 of the texts of this claim: what its theorem leans on. -/
import Derived.WalkKit
import Derived.Deep.Quiet
import Derived.StillTail
import Derived.ProofKit
import Derived.OpenShut
import Derived.Carry
import Derived.Deep.Slices
import Derived.Scope
import Derived.Laws.StructEq
import Derived.ChangeKeysEq
import Derived.WalkLawsBesides
import Derived.Maps.OwnOps
import Derived.Maps.OwnSet
import Derived.Lib.AppendStr
import Derived.Lib.UnsafeStr
import Derived.Lib.Builder
import Derived.Laws.Externs
import Derived.LaidEqlPtr
import Derived.Lib.LaidTab
import Derived.Lib.ItoaNum
import Derived.Sort.OwnSortedInts
import Derived.Deep.Draws
import Derived.WalkSmall
import Derived.ChangeMaps5
import Derived.Test.YtkjngekgpgejnaaGreatDoorProg
import Derived.KernelRfl
import Derived.Shelf.Small.Wraps
import Derived.Shelf.Strconv.Itoa0
import Derived.Shelf.Strconv.Itoa1
import Derived.Shelf.LaysM
import Derived.Shelf.Strconv.Itoa2
import Derived.Shelf.Strconv.Itoa3
import Derived.Shelf.Strconv.AppendUint10
import Derived.Shelf.Strconv.AppendInt10
import Derived.Shelf.Strconv.AppendIntPublic10
import Derived.DeepKeys4
set_option linter.all false
namespace Go
theorem rf{α:Sort _}{a:α}:a=a:=rfl
end Go
namespace Go.GK
def lk:List (Nat×Value)->Nat->Option Value
 | [],_=>none
 |(k,v)::l,t=>match Nat.beq k t with
  |true=>some v
  |false=>lk l t
structure Fr(a:Act)(n:Nat)(L:List (Nat×Value)):Prop where
 defers:a.defers=[]
 size:a.tmps.size=n
 get:∀t v,lk L t=some v->a.tmps.getD t undef=v
theorem Fr.put{a:Act}{n:Nat}{L:List (Nat×Value)}(h:Fr a n L){d:Nat}(hd:Nat.blt d n=true)(v:Value):Fr (a.put (some d) v) n ((d,v)::L):=by
 have hd':d<n:=by simpa using hd
 refine⟨h.defers,by simp[Act.put,h.size],fun t u hu=>?_⟩
 simp only[lk]at hu
 simp only[Act.put]
 cases hb:Nat.beq d t with
 |true=>
  have e:d=t:=Nat.eq_of_beq_eq_true hb
  subst e
  rw[hb]at hu
  have e2:v=u:=by simpa using hu
  subst e2
  simp[h.size,hd']
 |false=>
  rw[hb]at hu
  have ne:d≠t:=Nat.ne_of_beq_eq_false hb
  have:=h.get t u hu
  simp only[Array.getD_eq_getD_getElem?]at this⊢
  rw[Array.getElem?_setIfInBounds_ne ne]
  exact this
def ev(L:List (Nat×Value)):Operand->Option Value
 | .tmp t=>lk L t
 | .const v=>some v
 | .global g=>some (.pointer (some ⟨g,0,none⟩))
 | .func f=>some (.func (.func f) #[] #[])
theorem Fr.eval{a:Act}{n:Nat}{L:List (Nat×Value)}(h:Fr a n L){x:Operand}{v:Value}(hx:ev L x=some v):a.eval x=v:=by
 cases x with
 |tmp t=>exact h.get t v hx
 |const u=>simpa [ev,Act.eval]using hx
 |global g=>simpa [ev,Act.eval]using hx
 |func f=>simpa [ev,Act.eval]using hx
def evl(L:List (Nat×Value)):List Operand->Option (List Value)
 | []=>some []
 |x::xs=>match ev L x,evl L xs with
  |some v,some vs=>some (v::vs)
  |_,_=>none
structure Hp where
 at_:Nat->Option Obj
 os:Os
 output:Array (Nat×ByteArray)
 tape:Nat->Question->Nat
def Hp.le(H H':Hp):Prop:=(∀b o,H.at_ b=some o->H'.at_ b=some o)/\H'.os=H.os/\H'.output=H.output/\H'.tape=H.tape
theorem Hp.le.refl(H:Hp):H.le H:=⟨fun _ _ h=>h,rfl,rfl,rfl⟩
theorem Hp.le.trans{A B C:Hp}(h:A.le B)(k:B.le C):A.le C:=⟨fun b o x=>k.1 b o (h.1 b o x),k.2.1.trans h.2.1,k.2.2.1.trans h.2.2.1,k.2.2.2.trans h.2.2.2⟩
inductive Ao where
 |Af (b:Nat) (o:Obj)
 |row (v:Value) (e:TypeId) (size n:Nat) (xs:List Value)
 |emp
 |own (b:Nat) (C:World->Prop) (lt:∀w,C w->b<w.heap.size) (kept:∀w w' row,C w->w.grownBy w' row->row≠some b->C w')
 |DB (v:Value) (e:TypeId) (n:Nat) (xs:List Value) (e':TypeId) (sz:Nat) (rows:List (Option (Nat×List Value)))
def Ao.block:Ao->Option Nat
 | .Af b _=>some b
 | .row v .. =>v.ownBlock
 | .emp=>none
 | .own b .. =>some b
 | .DB .. =>none
def Ao.has:Ao->Nat->Prop
 | .Af c _,b=>c=b
 | .row v ..,b=>v.ownBlock=some b
 | .emp,_=>False
 | .own c ..,b=>c=b
 | .DB v _ _ xs _ _ rows,b=>v.ownBlock=some b\/∃(i:Nat) (u:Value) (m:Nat) (ys:List Value),xs[i]?=some u/\rows[i]?=some (some (m,ys))/\u.ownBlock=some b
theorem Ao.MF{r:Ao}{b:Nat}(h:r.block=some b):r.has b:=by
 cases r<;>simp_all [Ao.block,Ao.has]
theorem Ao.has_eq{r:Ao}{b c:Nat}(h:r.block=some b)(k:r.has c):c=b:=by
 cases r<;>simp_all [Ao.block,Ao.has]
structure GA(w:World)(v:Value)(e:TypeId)(n:Nat)(xs:List Value)(e':TypeId)(sz:Nat)(rows:List (Option (Nat×List Value))):Prop where
 top:w.ownsRow 0 e 1 v n xs
 row:∀(i:Nat) (u:Value) (m:Nat) (ys:List Value),xs[i]?=some u->rows[i]?=some (some (m,ys))->w.ownsRow 0 e' sz u m ys
 one:∀(i j:Nat) (u u':Value) (m m':Nat) (ys ys':List Value) (b:Nat),xs[i]?=some u->rows[i]?=some (some (m,ys))->xs[j]?=some u'->rows[j]?=some (some (m',ys'))->u.ownBlock=some b->u'.ownBlock=some b->i=j
 out:∀(i:Nat) (u:Value) (m:Nat) (ys:List Value) (b:Nat),xs[i]?=some u->rows[i]?=some (some (m,ys))->u.ownBlock=some b->v.ownBlock≠some b
def Ao.ok(w:World):Ao->Prop
 | .Af b o=>w.heap[b]?=some o
 | .row v e size n xs=>w.ownsRow 0 e size v n xs
 | .emp=>True
 | .own _ C _ _=>C w
 | .DB v e n xs e' sz rows=>GA w v e n xs e' sz rows
structure SH(w:World)(H:Hp)(O:List Ao):Prop where
 K3:∀b o,H.at_ b=some o->w.heap[b]?=some o
 os:w.os=H.os
 output:w.output=H.output
 tape:w.tape=H.tape
 ok:∀(i:Nat) (r:Ao),O[i]?=some r->r.ok w
 Ii:∀(i:Nat) (r:Ao) (b:Nat),O[i]?=some r->r.has b->H.at_ b=none
 nd:∀(i j:Nat) (r r':Ao) (b:Nat),O[i]?=some r->O[j]?=some r'->r.has b->r'.has b->i=j
theorem Ao.ok.lt{w:World}{r:Ao}(h:r.ok w){b:Nat}(hb:r.has b):b<w.heap.size:=by
 cases r with
 |Af b' o=>
  have hb:b'=b:=hb
  subst hb
  exact(Array.getElem?_eq_some_iff.1 h).1
 |row v e size n xs=>exact(World.ownsRow.lt h b hb).2
 |emp=>exact hb.elim
 |own b' C lt kept=>
  have hb:b'=b:=hb
  subst hb
  exact lt w h
 |DB v e n xs e' sz rows=>
  rcases hb with hb|⟨i,u,m,ys,h1,h2,hb⟩
  ·exact(World.ownsRow.lt (GA.top h) b hb).2
  ·exact(World.ownsRow.lt (GA.row h i u m ys h1 h2) b hb).2
theorem Ao.ok.grown{w w':World}{row:Option Nat}{r:Ao}(h:r.ok w)(hg:w.grownBy w' row)(hne:∀b,r.has b->row≠some b):r.ok w':=by
 cases r with
 |Af b o=>
  have hlt:=Ao.ok.lt h (b:=b) rfl
  show w'.heap[b]?=some o
  rw[hg.block b hlt (fun e=>hne b rfl e.symm)]
  exact h
 |row v e size n xs=>
  refine World.ownsRow.kept h hg ?_
  cases hv:v.ownBlock with
  |none=>exact .inl rfl
  |some b=>exact .inr (fun e=>hne b hv e.symm)
 |emp=>trivial
 |own b C lt kept=>exact kept w w' row h hg (hne b rfl)
 |DB v e n xs e' sz rows=>
  refine⟨World.ownsRow.kept (GA.top h) hg ?_,fun i u m ys h1 h2=>World.ownsRow.kept (GA.row h i u m ys h1 h2) hg ?_,GA.one h,GA.out h⟩
  ·cases hv:v.ownBlock with
   |none=>exact .inl rfl
   |some b=>exact .inr (fun e=>hne b (.inl hv) e.symm)
  ·cases hv:u.ownBlock with
   |none=>exact .inl rfl
   |some b=>exact .inr (fun e=>hne b (.inr ⟨i,u,m,ys,h1,h2,hv⟩) e.symm)
theorem SH.lt{w:World}{H:Hp}{O:List Ao}(h:SH w H O){b:Nat}{o:Obj}(hb:H.at_ b=some o):b<w.heap.size:=(Array.getElem?_eq_some_iff.1 (h.K3 b o hb)).1
theorem SH.grown{w w':World}{H:Hp}{O:List Ao}(h:SH w H O)(hg:w.grownBy w' none):SH w' H O where
 K3 b o hb:=by rw[hg.block b (h.lt hb) (by simp)];exact h.K3 b o hb
 os:=hg.os.trans h.os
 output:=hg.output.trans h.output
 tape:=hg.tape.trans h.tape
 ok i r hr:=(h.ok i r hr).grown hg (by simp)
 Ii:=h.Ii
 nd:=h.nd
theorem SH.drew{w:World}{H:Hp}{O:List Ao}(h:SH w H O):SH {w with drawn:=w.drawn+1} H O where
 K3:=h.K3
 os:=h.os
 output:=h.output
 tape:=h.tape
 ok i r hr:=by
  have:=h.ok i r hr
  cases r with
  |own b C lt kept=>exact kept w _ none this ⟨rfl,rfl,rfl,Nat.le_refl _,fun _ _ _=>rfl⟩ (by simp)
  |DB v e n xs e' sz rows=>
   have t:GA w v e n xs e' sz rows:=this
   exact⟨t.top,t.row,t.one,t.out⟩
  |_=>exact this
 Ii:=h.Ii
 nd:=h.nd
theorem Bi{α:Type}{x y:α}{l:List α}{i:Nat}(h:(x::l)[i]?=some y):(i=0/\y=x)\/∃j,i=j+1/\l[j]?=some y:=by
 cases i with
 |zero=>left;simp at h;exact⟨rfl,h.symm⟩
 |succ j=>right;exact⟨j,rfl,by simpa using h⟩
theorem SH.push{w w':World}{H:Hp}{O:List Ao}(h:SH w H O)(hg:w.grownBy w' none){r:Ao}(hr:r.ok w')(hnew:∀b,r.has b->w.heap.size<=b):SH w' H (r::O)where
 K3 b o hb:=by rw[hg.block b (h.lt hb) (by simp)];exact h.K3 b o hb
 os:=hg.os.trans h.os
 output:=hg.output.trans h.output
 tape:=hg.tape.trans h.tape
 ok i s hs:=by
  rcases Bi hs with⟨rfl,rfl⟩|⟨j,rfl,hj⟩
  ·exact hr
  ·exact(h.ok j s hj).grown hg (by simp)
 Ii i s b hs hb:=by
  rcases Bi hs with⟨rfl,rfl⟩|⟨j,rfl,hj⟩
  ·cases he:H.at_ b with
   |none=>rfl
   |some o=>have:=h.lt he;have:=hnew b hb;omega
  ·exact h.Ii j s b hj hb
 nd i j s s' b hi hj hb hb':=by
  rcases Bi hi with⟨rfl,rfl⟩|⟨i',rfl,hi'⟩
  ·rcases Bi hj with⟨rfl,rfl⟩|⟨j',rfl,hj'⟩
   ·rfl
   ·have:=(h.ok j' s' hj').lt hb';have:=hnew b hb;omega
  ·rcases Bi hj with⟨rfl,rfl⟩|⟨j',rfl,hj'⟩
   ·have:=(h.ok i' s hi').lt hb;have:=hnew b hb';omega
   ·rw[h.nd i' j' s s' b hi' hj' hb hb']
theorem SH.alloc{w:World}{H:Hp}{O:List Ao}(h:SH w H O)(o:Obj):SH (w.alloc o) H (.Af w.heap.size o::O):=
 h.push (World.grownBy_alloc w o none) (heap_alloc_new w o) (fun b hb=>by simp only[Ao.has]at hb;omega)
theorem SH.nv{w w':World}{H:Hp}{O:List Ao}(h:SH w H O){i:Nat}{r r':Ao}(hi:O[i]?=some r){row:Option Nat}(hrow:∀b,row=some b->r.has b)(hg:w.grownBy w' row)
  (hr:r'.ok w') (hb:∀b,r'.has b->r.has b\/w.heap.size<=b):SH w' H (O.set i r'):=by
 have hlen:i<O.length:=(List.getElem?_eq_some_iff.1 hi).1
 have key:∀j s,(O.set i r')[j]?=some s->(j=i/\s=r')\/(j≠i/\O[j]?=some s):=fun j s hs=>by
  rw[List.getElem?_set]at hs
  by_cases e:i=j
  ·subst e;simp[hlen]at hs;exact .inl ⟨rfl,hs.symm⟩
  ·simp[e]at hs;exact .inr ⟨fun x=>e x.symm,hs⟩
 have hnone:∀b,r'.has b->H.at_ b=none:=fun b hb'=>by
  rcases hb b hb' with hb'|hb'
  ·exact h.Ii i r b hi hb'
  ·cases he:H.at_ b with
   |none=>rfl
   |some o=>have:=h.lt he;omega
 refine⟨fun b o hbo=>?_,hg.os.trans h.os,hg.output.trans h.output,hg.tape.trans h.tape,fun j s hs=>?_,fun j s b hs hsb=>?_,fun j k s s' b hs hs' hsb hsb'=>?_⟩
 ·rw[hg.block b (h.lt hbo) (fun e=>by rw[h.Ii i r b hi (hrow b e.symm)]at hbo;cases hbo)]
  exact h.K3 b o hbo
 ·rcases key j s hs with⟨rfl,rfl⟩|⟨hj,hs'⟩
  ·exact hr
  ·exact(h.ok j s hs').grown hg (fun b hb e=>hj (h.nd j i s r b hs' hi hb (hrow b e)))
 ·rcases key j s hs with⟨rfl,rfl⟩|⟨hj,hs'⟩
  ·exact hnone b hsb
  ·exact h.Ii j s b hs' hsb
 ·rcases key j s hs with⟨rfl,rfl⟩|⟨hj,h1⟩
  ·rcases key k s' hs' with⟨rfl,rfl⟩|⟨hk,h2⟩
   ·rfl
   ·exfalso
    rcases hb b hsb with e|e
    ·exact hk (h.nd k j s' r b h2 hi hsb' e)
    ·have:=(h.ok k s' h2).lt hsb';omega
  ·rcases key k s' hs' with⟨rfl,rfl⟩|⟨hk,h2⟩
   ·exfalso
    rcases hb b hsb' with e|e
    ·exact hj (h.nd j k s r b h1 hi hsb e)
    ·have:=(h.ok j s h1).lt hsb;omega
   ·exact h.nd j k s s' b h1 h2 hsb hsb'
theorem SH.set{w w':World}{H:Hp}{O:List Ao}(h:SH w H O){i:Nat}{r r':Ao}(hi:O[i]?=some r)(hg:w.grownBy w' r.block)
 (hr:r'.ok w') (hb:∀b,r'.has b->r.has b\/w.heap.size<=b):SH w' H (O.set i r'):=h.nv hi (fun _ h=>Ao.MF h) hg hr hb
def Hp.put(H:Hp)(b:Nat)(o:Obj):Hp:= {H with at_:=fun c=>if c=b then some o else H.at_ c}
theorem SH.drop{w:World}{H:Hp}{O:List Ao}(h:SH w H O)(i:Nat):SH w H (O.eraseIdx i)where
 K3:=h.K3
 os:=h.os
 output:=h.output
 tape:=h.tape
 ok j r hr:=by
  rw[List.getElem?_eraseIdx]at hr
  split at hr
  ·exact h.ok _ _ hr
  ·exact h.ok _ _ hr
 Ii j r b hr hb:=by
  rw[List.getElem?_eraseIdx]at hr
  split at hr
  ·exact h.Ii _ _ b hr hb
  ·exact h.Ii _ _ b hr hb
 nd j k r r' b hr hr' hb hb':=by
  rw[List.getElem?_eraseIdx]at hr hr'
  split at hr<;>split at hr'
  ·exact h.nd _ _ _ _ b hr hr' hb hb'
  ·have:=h.nd _ _ _ _ b hr hr' hb hb';omega
  ·have:=h.nd _ _ _ _ b hr hr' hb hb';omega
  ·have:=h.nd _ _ _ _ b hr hr' hb hb';omega
theorem SH.Jg{w:World}{H:Hp}{O:List Ao}(h:SH w H O){i:Nat}{r:Ao}(hi:O[i]?=some r){b:Nat}(hb:r.has b){o:Obj}(ho:w.heap[b]?=some o):
  H.le (H.put b o)/\SH w (H.put b o) (O.eraseIdx i):=by
 have hnone:=h.Ii i r b hi hb
 have hd:=h.drop i
 refine⟨⟨fun c o' hc=>?_,rf,rf,rf⟩,⟨fun c o' hc=>?_,h.os,h.output,h.tape,hd.ok,fun j s c hs hc=>?_,hd.nd⟩⟩
 ·simp only[Hp.put]
  by_cases e:c=b
  ·subst e;rw[hnone]at hc;cases hc
  ·simp[e,hc]
 ·simp only[Hp.put]at hc
  by_cases e:c=b
  ·subst e;simp at hc;subst hc;exact ho
  ·simp[e]at hc;exact h.K3 c o' hc
 ·simp only[Hp.put]
  have:c≠b:=fun e=>by
   subst e
   rw[List.getElem?_eraseIdx]at hs
   split at hs
   ·have:=h.nd _ _ _ _ c hs hi hc hb;omega
   ·have:=h.nd _ _ _ _ c hs hi hc hb;omega
  simp[this,hd.Ii j s c hs hc]
theorem SH.pick{w:World}{H:Hp}{O O':List Ao}(h:SH w H O)(f:Nat->Nat)(hf:∀i r,O'[i]?=some r->O[f i]?=some r)
  (hinj:∀i j,i<O'.length->j<O'.length->f i=f j->i=j):SH w H O' where
 K3:=h.K3
 os:=h.os
 output:=h.output
 tape:=h.tape
 ok i r hr:=h.ok _ _ (hf i r hr)
 Ii i r b hr hb:=h.Ii _ _ b (hf i r hr) hb
 nd i j r r' b hr hr' hb hb':=hinj i j (List.getElem?_eq_some_iff.1 hr).1 (List.getElem?_eq_some_iff.1 hr').1 (h.nd _ _ _ _ b (hf i r hr) (hf j r' hr') hb hb')
def At(Q:Exit->Act->World->Prop)(e:Exit)(n:Nat)(L:List (Nat×Value))(H:Hp)(O:List Ao):Prop:= ∀a w,Fr a n L->SH w H O->Q e a w
def Wp(P:Program)(c:Code)(Q:Exit->Act->World->Prop)(n:Nat)(L:List (Nat×Value))(H:Hp)(O:List Ao):Prop:= ∀a w,Fr a n L->SH w H O->c.wp P Q a w
def Eb(P:Program)(ops:Array Oper)(Q:Exit->Act->World->Prop)(rest:List Oper)(n:Nat)(L:List (Nat×Value))(H:Hp)(O:List Ao):Prop:= ∀a w,Fr a n L->SH w H O->wpList P ops Q rest a w
section
variable {P : Program} {Q Q2 : Exit -> Act -> World -> Prop} {n : Nat} {L L' : List (Nat × Value)} {H : Hp} {O : List Ao}
theorem At.OZ{y:Code}(h:Wp P y Q n L H O):At (Exit.then (y.wp P Q) Q2) .normal n L H O:=h
theorem Wp.seq{x y:Code}(h:Wp P x (Exit.then (y.wp P Q) Q) n L H O):Wp P (.seq x y) Q n L H O:=fun a w hf hs=>wp_seq (h a w hf hs)
theorem Wp.skip(h:At Q .normal n L H O):Wp P .skip Q n L H O:=fun a w hf hs=>wp_skip (h a w hf hs)
theorem Wp.oL{c:Operand}{x y:Code}(hv:ev L c=some (.bool true))(ht:Wp P x Q n L H O):Wp P (.cond c x y) Q n L H O:=
 fun a w hfr hs=>wp_cond_true (hfr.eval hv) (ht a w hfr hs)
theorem Wp.dy{c:Operand}{x y:Code}(hv:ev L c=some (.bool false))(ht:Wp P y Q n L H O):Wp P (.cond c x y) Q n L H O:=
 fun a w hfr hs=>wp_cond_false (hfr.eval hv) (ht a w hfr hs)
theorem Wp.region{id:Nat}{l:List Oper}(h:Eb P l.toArray Q l n L H O):Wp P (.region id l.toArray false) Q n L H O:=
 fun a w hf hs=>wp_region_lit (h a w hf hs)
theorem Eb.nil{ops:Array Oper}(h:At Q .normal n L H O):Eb P ops Q [] n L H O:=h
def Am(P:Program)(op:Op)(T:TypeId)(E:Operand->Option Value)(H:Hp)(O:List Ao)(v:Value):Prop:= ∀(a:Act) (w:World) (o:Oper),o.op=op->o.type=T->(∀x u,E x=some u->a.eval x=u)->SH w H O->o.quietAt P a (fun w'=>SH w' H O) w v
theorem Oper.Bt{o:Oper}{a:Act}{w:World}{C:World->Prop}{v:Value}{next:Act->World->Prop}{Q:Exit->Act->World->Prop}
  (hq:o.quietAt P a C w v) (hC:C w) (h:∀w',C w'->next (a.put o.dst v) w'):o.wp P a w next Q:=by
 unfold Oper.quietAt Oper.quietUpon at hq
 unfold Oper.wp
 split at hq<;>rename_i heq<;>(try rw[heq])
 ·obtain⟨rfl,rfl⟩:=hq
  exact h _ hC
 ·obtain⟨rfl,rfl⟩:=hq
  exact h _ hC
 ·obtain⟨rfl,hq⟩:=hq
  refine hq.mono ?_
  rintro e w' ⟨rfl,hw⟩
  exact h _ hw
 ·exact hq.elim
def Bl(P:Program)(op:Op)(T:TypeId)(E:Operand->Option Value)(H:Hp)(O:List Ao)(R:Value->Hp->List Ao->Prop):Prop:= ∀(a:Act) (w:World) (o:Oper) (next:Act->World->Prop) (Q:Exit->Act->World->Prop),o.op=op->o.type=T->(∀x u,E x=some u->a.eval x=u)->SH w H O->(∀v w' H' O',H.le H'->R v H' O'->SH w' H' O'->next (a.put o.dst v) w')->o.wp P a w next Q
theorem Eb.op{ops:Array Oper}{rest:List Oper}{d:Tmp}{op:Op}{T:TypeId}{pos:String}{af:Array Edge}{v:Value}
  (h:Am P op T (ev L) H O v) (hd:Nat.blt d n=true) (k:Eb P ops Q rest n ((d,v)::L) H O):
  Eb P ops Q ({dst:=some d,op,type:=T,pos,after:=af,guard:=none} ::rest) n L H O:=fun a w hf hs=>
 wpList_plain rfl fun K hK=>Oper.Bt (h a w _ rfl rfl (fun _ _ hx=>hf.eval hx) hs) hs fun w' hw'=>hK _ _ (k _ _ (hf.put hd v) hw')
theorem Eb.uk{ops:Array Oper}{rest:List Oper}{op:Op}{T:TypeId}{pos:String}{af:Array Edge}{R:Value->Hp->List Ao->Prop}
  (h:Bl P op T (ev L) H O R) (k:∀v H' O',H.le H'->R v H' O'->Eb P ops Q rest n L H' O'):
  Eb P ops Q ({dst:=none,op,type:=T,pos,after:=af,guard:=none} ::rest) n L H O:=fun a w hf hs=>
 wpList_plain rfl fun K hK=>h a w _ K Q rfl rfl (fun _ _ hx=>hf.eval hx) hs fun v w' H' O' hle hr hw'=>hK _ _ (k v H' O' hle hr _ _ hf hw')
def Bb(ops:Array Oper)(j:Nat):Option Tmp:=(ops[j]?).bind (·.dst)
theorem ER{ops:Array Oper}{a:Act}{j:Nat}{t:Tmp}{b:Bool}(hj:Bb ops j=some t)(hv:a.tmps.getD t undef= .bool b):yielded ops a.tmps j=some b:=by
 unfold Bb at hj
 unfold yielded
 rw[hj]
 have:a.tmps[t]?=some (.bool b):=by
  rw[Array.getD_eq_getD_getElem?]at hv
  cases h:a.tmps[t]? with
  |none=>rw[h]at hv;simp[undef]at hv
  |some u=>rw[h]at hv;simp at hv;rw[hv]
 simp[this]
end
end Go.GK
namespace Go.GK
abbrev SP:=Hp->Value->Prop
def names(ops:Array Oper)(o:Oper):List Tmp:=o.dst.toList++o.looksAt ops
def meets(ops:Array Oper)(x y:Oper):Bool:=
 (match x.dst with|some d=>(names ops y).any (Nat.beq d)|none=>false)||(match y.dst with|some d=>(names ops x).any (Nat.beq d)|none=>false)
def E':Nat->List Oper->Bool
 |_,[]=>true
 |i,o::os=>(o.after.all fun e=> !Region.binds .any e||Nat.blt e.on i)&&E' (i+1) os
def Q_(o:Oper)(i:Nat):Bool:=o.after.any fun e=>Region.binds .any e&&Nat.beq e.on i
def dt(ops:Array Oper):Nat->Oper->Nat->Bool
 |0,o,i=>Q_ o i
 |f+1,o,i=>Q_ o i||o.after.any fun e=>Region.binds .any e&&((ops[e.on]?).map fun x=>dt ops f x i).getD false
def Pg(ops:Array Oper)(k j:Nat)(o:Oper):Nat->List Oper->Bool
 |_,[]=>true
 |i,x::xs=>(Nat.ble j i||((!(meets ops x o)&&Nat.blt j k)||dt ops 8 o i))&&Pg ops k j o (i+1) xs
def Et(l:List Oper)(ops:Array Oper)(k:Nat):Nat->List Oper->Bool
 |_,[]=>true
 |j,o::os=>Pg ops k j o 0 l&&Et l ops k (j+1) os
theorem KM:∀ {l:List Oper} {i:Nat},E' i l=true->∀(j:Nat) (o:Oper),l[j]?=some o->∀e∈o.after,Region.binds .any e=true->e.on<i+j
 | [],_,_,j,o,h=>by simp at h
 |x::xs,i,hb,j,o,h=>by
  simp only[E',Bool.and_eq_true]at hb
  cases j with
  |zero=>
   simp at h;subst h
   intro e he hbi
   have:=(Array.all_eq_true_iff_forall_mem.1 hb.1) e he
   simp[hbi]at this
   omega
  |succ j=>
   intro e he hbi
   have:=KM hb.2 j o (by simpa using h) e he hbi
   omega
def cur(l:List Oper)(Φ:Nat->SP)(S:Nat->SP)(listed:Nat->Bool)(t:Nat):Nat->SP
 |0=>Φ t
 |i+1=>if listed i=true/\((l[i]?).bind (·.dst))=some t then S i else cur l Φ S listed t i
section
variable {P : Program} {Q : Exit -> Act -> World -> Prop}
theorem DP{ops:Array Oper}{o:Oper}{t:Tmp}(h:t∈o.looksAt ops):(names ops o).any (Nat.beq t)=true:=by
 simp only[names,List.any_append,Bool.or_eq_true]
 exact .inr (List.any_eq_true.2 ⟨t,h,by simp⟩)
theorem HX{ops:Array Oper}{o:Oper}{t:Tmp}(h:o.dst=some t):(names ops o).any (Nat.beq t)=true:=by
 simp[names,h]
def AK(p:Nat->Bool):Nat->Nat
 |0=>0
 |m+1=>AK p m+if p m then 0 else 1
theorem Ox{p:Nat->Bool} :∀ {m:Nat},AK p m=0->∀i,i<m->p i=true
 |0,_,i,h=>by omega
 |m+1,hc,i,h=>by
  simp only[AK]at hc
  by_cases e:i=m
  ·subst e
   cases hp:p i with
   |true=>rfl
   |false=>rw[hp]at hc;simp at hc
  ·exact Ox (p:=p) (m:=m) (by omega) i (by omega)
theorem Oy{p q:Nat->Bool} :∀ {m:Nat},(∀i,i<m->p i=q i)->AK p m=AK q m
 |0,_=>rfl
 |m+1,h=>by
  simp only[AK]
  rw[h m (by omega),Oy fun i hi=>h i (by omega)]
theorem Rn{p q:Nat->Bool}{i:Nat} :∀ {m:Nat},i<m->p i=false->q i=true->(∀j,j≠i->q j=p j)->AK p m=AK q m+1
 |0,h,_,_,_=>by omega
 |m+1,h,hp,hq,hj=>by
  simp only[AK]
  by_cases e:i=m
  ·subst e
   rw[hp,hq,Oy (p:=p) (q:=q) fun j hj'=>(hj j (by omega)).symm]
   simp
  ·rw[Rn (m:=m) (by omega) hp hq hj,hj m (fun x=>e x.symm)]
   omega
end
end Go.GK
namespace Go.GK
inductive SV where
 |is (v:Value)
 |sat (p:SP)
end Go.GK
namespace Go.GK
theorem AG{P:Program}{w:World}{t:TypeId}{d:TypeDesc}(h:P.underlying t=some d):(underlying t).run P w= .ok d w:=run_underlying h w
structure TI(P:Program)(t:TypeId)(size bytes:Nat)(z:Value):Prop where
 ex:∃i,P.info? t=some i/\i.size=size/\i.bytes=bytes/\i.zero=some z
theorem TI.of{P:Program}{t:TypeId}{size bytes:Nat}{z:Value}(h:(P.info? t).map (fun i=>(i.size,i.bytes,i.zero))=some (size,bytes,some z)):TI P t size bytes z:=by
 cases hi:P.info? t with
 |none=>simp[hi]at h
 |some i=>simp[hi]at h;exact⟨i,hi,h.1,h.2.1,h.2.2⟩
theorem TI.sizeOf{P:Program}{w:World}{t:TypeId}{size bytes:Nat}{z:Value}(h:TI P t size bytes z):(Go.sizeOf t).run P w= .ok size w:=by
 obtain⟨i,hi,h1,_⟩:=h.ex
 simp[Go.sizeOf,typeInfo,hi,h1]
theorem TI.zeroValue{P:Program}{w:World}{t:TypeId}{size bytes:Nat}{z:Value}(h:TI P t size bytes z):(Go.zeroValue t).run P w= .ok z w:=by
 obtain⟨i,hi,_,_,h1⟩:=h.ex
 simp[Go.zeroValue,typeInfo,hi,h1]
def C5:TypeDesc->Bool
 | .struct _=>true
 | .array _ _=>true
 |_=>false
theorem BE{P:Program}{w:World}{t:TypeId}{d:TypeDesc}(h:P.underlying t=some d):(isAgg t).run P w= .ok (C5 d) w:=by
 simp[isAgg,AG h]
 cases d<;>simp[C5]
def ptr(b off:Nat):Value:= .pointer (some ⟨b,off,none⟩)
def AE(v:Value)(k:Nat):Value:=match v with
 | .slice (some a) _ _=> .pointer (some (a.add k))
 |_=>undef
theorem Cv(a:Addr)(m n:Nat):(a.add m).add n=a.add (m+n):=by
 unfold Addr.add
 by_cases hm:m=0
 ·subst hm;simp
 ·by_cases hn:n=0
  ·subst hn;simp
  ·simp[hm,hn,Nat.add_assoc]
def C8(H:Hp)(p:Value)(u:Value):Prop:= ∃a cur t fr,p= .pointer (some a)/\a.spot=none/\H.at_ a.block=some (.cells cur t fr)/\cur[a.off]?=some u
def OP(v:Value)(n:Nat):Prop:=(v= .slice none 0 0/\n=0)\/∃a cap,v= .slice (some a) n cap/\n<=cap
structure Sl(H:Hp)(v:Value)(size n:Nat)(xs:List Value):Prop where
 len:xs.length=n*size
 sl:OP v n
 cells:∀j u,xs[j]?=some u->C8 H (AE v j) u
theorem C8.mono{H H':Hp}(h:H.le H'){p u:Value}(hc:C8 H p u):C8 H' p u:=by
 obtain⟨a,cur,t,fr,h1,h2,h3,h4⟩:=hc
 exact⟨a,cur,t,fr,h1,h2,h.1 _ _ h3,h4⟩
theorem Sl.mono{H H':Hp}(h:H.le H'){v:Value}{size n:Nat}{xs:List Value}(hs:Sl H v size n xs):Sl H' v size n xs:=
 ⟨hs.len,hs.sl,fun j u hj=>(hs.cells j u hj).mono h⟩
theorem Sl.nil(H:Hp)(size:Nat):Sl H (.slice none 0 0) size 0 []:=⟨by simp, .inl ⟨rfl,rfl⟩,fun j u h=>by simp at h⟩
theorem C8.cell{H:Hp}{w:World}{O:List Ao}(hs:SH w H O){p u:Value}(hc:C8 H p u):∃a,p= .pointer (some a)/\w.cell? a=some u:=by
 obtain⟨a,cur,t,fr,h1,h2,h3,h4⟩:=hc
 exact⟨a,h1,by simp[World.cell?,hs.K3 _ _ h3,h2,h4]⟩
theorem SH.Gf{H:Hp}{w:World}{O:List Ao}(hs:SH w H O){i B:Nat}{cs:Array Value}{t:TypeId}{fr:Nat×Nat}(hi:O[i]?=some (.Af B (.cells cs t fr))){off:Nat}{u:Value}(hu:cs[off]?=some u):
  w.cell? ⟨B,off,none⟩=some u:=by
 have:=hs.ok i _ hi
 simp only[Ao.ok]at this
 simp[World.cell?,this,hu]
theorem SH.Xr{H:Hp}{w:World}{O:List Ao}(hs:SH w H O){i:Nat}{v:Value}{e:TypeId}{size n:Nat}{xs:List Value}(hi:O[i]?=some (.row v e size n xs)){j:Nat}{u:Value}(hu:xs[j]?=some u):
  ∃a,AE v j= .pointer (some a)/\a.spot=none/\v.ownBlock=some a.block/\w.cell? a=some u/\w.frozen? a=false:=by
 have h:=hs.ok i _ hi
 simp only[Ao.ok]at h
 rcases h.2 with⟨rfl,rfl⟩|⟨g,cap,cur,rfl,_,hg,_,_,_,htake⟩
 ·have:xs=[]:=List.eq_nil_of_length_eq_zero (by simpa using h.1)
  subst this;simp at hu
 ·have:=h.cells (g:=g) rfl j u hu
  rw[Addr.add_lit]at this
  refine⟨⟨g,0+j,none⟩,by simp only[AE,Addr.add_lit],rf,rf,this,?_⟩
  simp[World.frozen?,hg]
theorem SH.JU{H:Hp}{w:World}{O:List Ao}(hs:SH w H O){i:Nat}{v:Value}{e:TypeId}{size n:Nat}{xs:List Value}(hi:O[i]?=some (.row v e size n xs)):OP v n/\xs.length=n*size:=by
 have h:=hs.ok i _ hi
 simp only[Ao.ok]at h
 refine⟨?_,h.1⟩
 rcases h.2 with⟨rfl,rfl⟩|⟨g,cap,cur,rfl,_,_,hn,_⟩
 ·exact .inl ⟨rf,rf⟩
 ·exact .inr ⟨_,_,rf,hn⟩
theorem SH.freeze{w:World}{H:Hp}{O:List Ao}(hs:SH w H O){i:Nat}{v:Value}{e:TypeId}{size n:Nat}{xs:List Value}(hi:O[i]?=some (.row v e size n xs)):
  ∃H',H.le H'/\SH w H' (O.eraseIdx i)/\Sl H' v size n xs:=by
 have h:=hs.ok i _ hi
 simp only[Ao.ok]at h
 rcases h.2 with⟨rfl,rfl⟩|⟨g,cap,cur,rfl,_,hg,hn,_,hcs,htake⟩
 ·have:xs=[]:=List.eq_nil_of_length_eq_zero (by simpa using h.1)
  subst this
  exact⟨H,Hp.le.refl H,hs.drop i,Sl.nil H size⟩
 ·obtain⟨h1,h2⟩:=hs.Jg hi (b:=g) rfl hg
  refine⟨_,h1,h2,h.1, .inr ⟨_,_,rf,hn⟩,fun j u hj=>⟨⟨g,0+j,none⟩,cur,e,(0,0),by simp only[AE,Addr.add_lit],rf,by simp[Hp.put],?_⟩⟩
  rw[<-htake]at hj
  rw[List.getElem?_take]at hj
  split at hj
  ·simpa using hj
  ·simp at hj
section
variable {P : Program} {T : TypeId} {E : Operand -> Option Value} {H : Hp} {O : List Ao}
theorem Am.Aj{op:Op}{v:Value}(h:∀(a:Act) (w:World) (o:Oper),o.op=op->o.type=T->(∀x u,E x=some u->a.eval x=u)->SH w H O->(execOp a.eval o).run P w= .ok (.value v) w):Am P op T E H O v:=by
 intro a w o ho hT he hs
 simp[Oper.quietAt,h a w o ho hT he hs,Oper.quietUpon]
theorem Am.move{x:Operand}{v:Value}(hx:E x=some v):Am P (.move x) T E H O v:= .Aj fun a w o ho _ he _=>by simp[execOp,ho,he x v hx]
theorem Am.assign{x:Operand}{v:Value}(hx:E x=some v):Am P (.assign x) T E H O v:= .Aj fun a w o ho _ he _=>by simp[execOp,ho,he x v hx]
theorem Am.nF{c x y:Operand}{v:Value}(hc:E c=some (.bool true))(hx:E x=some v):Am P (.pick c x y) T E H O v:= .Aj fun a w o ho _ he _=>by simp[execOp,ho,he x v hx,he c _ hc,asBool]
theorem Am.nG{c x y:Operand}{v:Value}(hc:E c=some (.bool false))(hy:E y=some v):Am P (.pick c x y) T E H O v:= .Aj fun a w o ho _ he _=>by simp[execOp,ho,he y v hy,he c _ hc,asBool]
section ints
variable {k : IntKind} {x y : Operand} {m n : Int} {Tx Ty : TypeId}
theorem Am.vi(hx:E x=some (.int k m))(hy:E y=some (.int k n)):Am P (.binOp .add Tx x y Ty) T E H O (.int k (k.wrap (m+n))):= .Aj fun a w o ho _ he _=>by
 simp[execOp,ho,he x _ hx,he y _ hy,eqGuard,binOp,Op.intArith]
theorem Am.tW(hx:E x=some (.int k m))(hy:E y=some (.int k n)):Am P (.binOp .sub Tx x y Ty) T E H O (.int k (k.wrap (m-n))):= .Aj fun a w o ho _ he _=>by
 simp[execOp,ho,he x _ hx,he y _ hy,eqGuard,binOp,Op.intArith]
theorem Am.uz(hx:E x=some (.int k m))(hy:E y=some (.int k n)):Am P (.binOp .mul Tx x y Ty) T E H O (.int k (k.wrap (m*n))):= .Aj fun a w o ho _ he _=>by
 simp[execOp,ho,he x _ hx,he y _ hy,eqGuard,binOp,Op.intArith]
theorem C9{k:IntKind}{n:Int}(h:k.min<=n/\n<=k.max):k.wrap n=n:=by
 cases k<;>simp[IntKind.min,IntKind.max,IntKind.signed,IntKind.bits]at h<;>simp[IntKind.wrap,IntKind.signed,IntKind.bits]<;>omega
theorem ML{n:Int}(h: -9223372036854775808<=n/\n<=9223372036854775807):IntKind.i64.min<=n/\n<=IntKind.i64.max:=by
 simpa [IntKind.min,IntKind.max,IntKind.signed,IntKind.bits]using h
theorem Vs{n:Int}(h:0<=n/\n<=255):IntKind.u8.min<=n/\n<=IntKind.u8.max:=by
 simpa [IntKind.min,IntKind.max,IntKind.signed,IntKind.bits]using h
theorem Am.add(hx:E x=some (.int k m))(hy:E y=some (.int k n))(h:k.min<=m+n/\m+n<=k.max):Am P (.binOp .add Tx x y Ty) T E H O (.int k (m+n)):=by
 have:=Am.vi (P:=P) (T:=T) (H:=H) (O:=O) (Tx:=Tx) (Ty:=Ty) hx hy;rwa [C9 h]at this
theorem Am.sub(hx:E x=some (.int k m))(hy:E y=some (.int k n))(h:k.min<=m-n/\m-n<=k.max):Am P (.binOp .sub Tx x y Ty) T E H O (.int k (m-n)):=by
 have:=Am.tW (P:=P) (T:=T) (H:=H) (O:=O) (Tx:=Tx) (Ty:=Ty) hx hy;rwa [C9 h]at this
theorem Am.mul(hx:E x=some (.int k m))(hy:E y=some (.int k n))(h:k.min<=m*n/\m*n<=k.max):Am P (.binOp .mul Tx x y Ty) T E H O (.int k (m*n)):=by
 have:=Am.uz (P:=P) (T:=T) (H:=H) (O:=O) (Tx:=Tx) (Ty:=Ty) hx hy;rwa [C9 h]at this
theorem Am.eql(hx:E x=some (.int k m))(hy:E y=some (.int k n)):Am P (.binOp .eql Tx x y Ty) T E H O (.bool (decide (m=n))):= .Aj fun a w o ho _ he _=>by
 simp[execOp,ho,he x _ hx,he y _ hy,eqGuard,binOp,Op.intCmp]
 rw[Bool.eq_iff_iff];simp
theorem Am.neq(hx:E x=some (.int k m))(hy:E y=some (.int k n)):Am P (.binOp .neq Tx x y Ty) T E H O (.bool (decide (m≠n))):= .Aj fun a w o ho _ he _=>by
 simp[execOp,ho,he x _ hx,he y _ hy,eqGuard,binOp,Op.intCmp]
 rw[Bool.eq_iff_iff];simp
theorem Am.lss(hx:E x=some (.int k m))(hy:E y=some (.int k n)):Am P (.binOp .lss Tx x y Ty) T E H O (.bool (decide (m<n))):= .Aj fun a w o ho _ he _=>by
 simp[execOp,ho,he x _ hx,he y _ hy,eqGuard,binOp,Op.intCmp]
theorem Am.leq(hx:E x=some (.int k m))(hy:E y=some (.int k n)):Am P (.binOp .leq Tx x y Ty) T E H O (.bool (decide (m<=n))):= .Aj fun a w o ho _ he _=>by
 simp[execOp,ho,he x _ hx,he y _ hy,eqGuard,binOp,Op.intCmp]
theorem Am.gtr(hx:E x=some (.int k m))(hy:E y=some (.int k n)):Am P (.binOp .gtr Tx x y Ty) T E H O (.bool (decide (n<m))):= .Aj fun a w o ho _ he _=>by
 simp[execOp,ho,he x _ hx,he y _ hy,eqGuard,binOp,Op.intCmp]
theorem Am.geq(hx:E x=some (.int k m))(hy:E y=some (.int k n)):Am P (.binOp .geq Tx x y Ty) T E H O (.bool (decide (n<=m))):= .Aj fun a w o ho _ he _=>by
 simp[execOp,ho,he x _ hx,he y _ hy,eqGuard,binOp,Op.intCmp]
theorem Am.dw{s d:TypeId}{ds:TypeDesc}{k':IntKind}(hs:P.underlying s=some ds)(hd:P.underlying d=some (.int k'))(hx:E x=some (.int k m)):Am P (.convert s d x) T E H O (.int k' (k'.wrap m)):= .Aj fun a w o ho _ he _=>by
 simp[execOp,ho,he x _ hx,convert,AG hs,AG hd,Conv.intToInt]
theorem Am.conv{s d:TypeId}{ds:TypeDesc}{k':IntKind}(hs:P.underlying s=some ds)(hd:P.underlying d=some (.int k'))(hx:E x=some (.int k m))(h:k'.min<=m/\m<=k'.max):Am P (.convert s d x) T E H O (.int k' m):=by
 have:=Am.dw (P:=P) (T:=T) (H:=H) (O:=O) hs hd hx;rwa [C9 h]at this
end ints
section words
variable {x y : Operand} {Tx Ty : TypeId}
def Iv(a:BitVec 64):Value:= .int .u64 a.toNat
theorem shift_shl(a:BitVec 64)(k:IntKind)(n:Nat):Op.shift .shl .u64 a.toNat k n=pure (Iv (a<<<n)):=by
 have hneg:¬((n:Int)<0):=by omega
 have key:∀j:Nat,IntKind.u64.wrap ((a.toNat:Int)*2^j)=((a.toNat*2^j %2^64:Nat):Int):=fun j=>by
  simp[IntKind.wrap,IntKind.signed,IntKind.bits]
 unfold Op.shift
 rw[if_neg hneg]
 show(pure (.int .u64 (IntKind.u64.wrap ((a.toNat:Int)*2^ (min n 64)))):Sem Value)=_
 rw[key,Iv,BitVec.toNat_shiftLeft,Nat.shiftLeft_eq]
 by_cases h:n<=64
 ·rw[Nat.min_eq_left h]
 ·rw[Nat.min_eq_right (by omega)]
  have h1:a.toNat*2^n %2^64=0:=by
   rw[show n=64+(n-64) by omega,Nat.pow_add,<-Nat.mul_assoc,Nat.mul_right_comm,Nat.mul_mod_left]
  rw[h1,Nat.mul_mod_left]
theorem shift_shr(a:BitVec 64)(k:IntKind)(n:Nat):Op.shift .shr .u64 a.toNat k n=pure (Iv (a>>>n)):=by
 have hneg:¬((n:Int)<0):=by omega
 have key:∀j:Nat,(a.toNat:Int).fdiv (2^j)=((a.toNat/2^j:Nat):Int):=fun j=>by
  rw[Int.fdiv_eq_ediv_of_nonneg _ (Int.pow_nonneg (by decide))]
  simp
 unfold Op.shift
 rw[if_neg hneg]
 show(pure (.int .u64 ((a.toNat:Int).fdiv (2^ (min n 64)))):Sem Value)=_
 rw[key,Iv,BitVec.toNat_ushiftRight,Nat.shiftRight_eq_div_pow]
 by_cases h:n<=64
 ·rw[Nat.min_eq_left h]
 ·rw[Nat.min_eq_right (by omega)]
  have h1:a.toNat/2^n=0:=Nat.div_eq_of_lt (Nat.lt_of_lt_of_le a.isLt (Nat.pow_le_pow_right (by decide) (by omega)))
  rw[h1,Nat.div_eq_of_lt a.isLt]
theorem Am.tZ{k:IntKind}{a:BitVec 64}{n:Nat}(hx:E x=some (Iv a))(hy:E y=some (.int k (n:Int))):Am P (.binOp .shl Tx x y Ty) T E H O (Iv (a<<<n)):= .Aj fun ac w o ho _ he _=>by
 have:=shift_shl a k n
 simp only[Iv]at*
 simp[execOp,ho,he x _ hx,he y _ hy,eqGuard,binOp,this]
theorem Am.tY{k:IntKind}{a:BitVec 64}{n:Nat}(hx:E x=some (Iv a))(hy:E y=some (.int k (n:Int))):Am P (.binOp .shr Tx x y Ty) T E H O (Iv (a>>>n)):= .Aj fun ac w o ho _ he _=>by
 have:=shift_shr a k n
 simp only[Iv]at*
 simp[execOp,ho,he x _ hx,he y _ hy,eqGuard,binOp,this]
end words
theorem Am.not{x:Operand}{Tx:TypeId}{b:Bool}(hx:E x=some (.bool b)):Am P (.unOp .not Tx x) T E H O (.bool (!b)):= .Aj fun ac w o ho _ he _=>by
 simp[execOp,ho,he x _ hx,Op.unary]
theorem JP{w:World}{Tx:TypeId}{a b:Bool}(ht:P.underlying Tx=some .bool):(Op.equal Tx (.bool a) (.bool b)).run P w= .ok (a==b) w:=by
 have h:∀d,(Op.equalIn (d+1) Tx (.bool a) (.bool b)).run P w= .ok (a==b) w:=fun d=>by simp[Op.equalIn,AG ht]
 unfold Op.equal Op.maxDepth
 exact h 9999
theorem Am.eqB{x y:Operand}{Tx Ty:TypeId}{a b:Bool}(ht:P.underlying Tx=some .bool)(hx:E x=some (.bool a))(hy:E y=some (.bool b)):Am P (.binOp .eql Tx x y Ty) T E H O (.bool (a==b)):= .Aj fun ac w o ho _ he _=>by
 have:=JP (w:=w) (a:=a) (b:=b) ht
 simp[execOp,ho,he x _ hx,he y _ hy,eqGuard,binOp,this]
theorem Am.neB{x y:Operand}{Tx Ty:TypeId}{a b:Bool}(ht:P.underlying Tx=some .bool)(hx:E x=some (.bool a))(hy:E y=some (.bool b)):Am P (.binOp .neq Tx x y Ty) T E H O (.bool (!(a==b))):= .Aj fun ac w o ho _ he _=>by
 have:=JP (w:=w) (a:=a) (b:=b) ht
 simp[execOp,ho,he x _ hx,he y _ hy,eqGuard,binOp,this]
theorem Am.extract{x:Operand}{i:Nat}{vs:Array Value}{v:Value}(hx:E x=some (.tuple vs))(hi:vs[i]?=some v):Am P (.extract x i) T E H O v:= .Aj fun ac w o ho _ he _=>by
 simp[execOp,ho,he x _ hx,Instr.extract,hi]
theorem Am.len{x:Operand}{t e:TypeId}{v:Value}{n:Nat}(ht:P.underlying t=some (.slice e))(hx:E x=some v)(hl:OP v n):Am P (.call {callee:= .builtin .len,args:= #[x],argTypes:= #[t]}) T E H O (.int .i64 n):= .Aj fun ac w o ho _ he _=>by
 rcases hl with⟨rfl,rfl⟩|⟨a,cap,rfl,_⟩<;>simp[execOp,ho,he x _ hx,resolve,invoke,builtin,Builtin.len_,AG ht,goInt]
theorem Am.gr{x:Operand}{t:TypeId}{s:ByteArray}(ht:P.underlying t=some .string)(hx:E x=some (.string s)):Am P (.call {callee:= .builtin .len,args:= #[x],argTypes:= #[t]}) T E H O (.int .i64 s.size):= .Aj fun ac w o ho _ he _=>by
 simp[execOp,ho,he x _ hx,resolve,invoke,builtin,Builtin.len_,AG ht,goInt]
theorem Am.oc{x y:Operand}{t e:TypeId}{len B off size bytes off':Nat}{z:Value}{k:IntKind}{i:Int}(ht:P.underlying t=some (.array len e))(hsz:TI P e size bytes z)(hx:E x=some (ptr B off))(hy:E y=some (.int k i))
  (h:0<=i/\i<len) (ho':off+i.toNat*size=off'):Am P (.indexAddr t x y) T E H O (ptr B off'):= .Aj fun ac w o ho _ he _=>by
 simp only[ptr]at*
 subst ho'
 simp[execOp,ho,he x _ hx,he y _ hy,Instr.indexAt,asIntOf,AG ht,Instr.sureAddr,h,hsz.sizeOf,Addr.add]
theorem Am.Yb{x y:Operand}{t e:TypeId}{n size bytes:Nat}{z v:Value}{k:IntKind}{i:Int}(ht:P.underlying t=some (.slice e))(hsz:TI P e size bytes z)(hx:E x=some v)(hl:OP v n)(hy:E y=some (.int k i))
  (h:0<=i/\i<n):Am P (.indexAddr t x y) T E H O (AE v (i.toNat*size)):= .Aj fun ac w o ho _ he _=>by
 rcases hl with⟨rfl,rfl⟩|⟨a,cap,rfl,_⟩
 ·omega
 ·simp[execOp,ho,he x _ hx,he y _ hy,Instr.indexAt,asIntOf,AG ht,h,hsz.sizeOf,AE]
theorem Am.ob{x y:Operand}{t e e':TypeId}{n size bytes:Nat}{z v:Value}{k:IntKind}{i:Int}{xs:List Value}{s j:Nat}(ht:P.underlying t=some (.slice e))(hsz:TI P e size bytes z)(hx:E x=some v)(hj:O[j]?=some (.row v e' s n xs))(hy:E y=some (.int k i))
 (h:0<=i/\i<n):Am P (.indexAddr t x y) T E H O (AE v (i.toNat*size)):=fun a w o ho hT he hs=>Am.Yb (H:=H) (O:=O) ht hsz hx (hs.JU hj).1 hy h a w o ho hT he hs
theorem run_loadCells{P:Program}{w:World}{a:Addr} :∀ {vs:List Value} {i:Nat} {acc:Array Value},(∀j u,vs[j]?=some u->w.cell? (a.add (i+j))=some u)->
  (loadCellsFrom a i vs.length acc).run P w= .ok (acc++vs.toArray) w
 | [],i,acc,_=>by simp[loadCellsFrom]
 |v::vs,i,acc,h=>by
  have h0:=h 0 v rfl
  simp only[Nat.add_zero]at h0
  have ih:=run_loadCells (P:=P) (w:=w) (a:=a) (vs:=vs) (i:=i+1) (acc:=acc.push v) (fun j u hj=>by
   have:=h (j+1) u (by simpa using hj)
   rwa [show i+(j+1)=i+1+j by omega]at this)
  simp only[List.length_cons,loadCellsFrom,Sem.run_bind,run_load,h0,Result.andThen_ok,ih]
  simp
theorem BT{P:Program}{w:World}{t:TypeId}{d:TypeDesc}{a:Addr}{v:Value}(ht:P.underlying t=some d)(hd:C5 d=false)(h:w.cell? a=some v):(loadVar t a).run P w= .ok v w:=by
 simp[loadVar,BE ht,hd,h]
theorem BU{P:Program}{w:World}{t:TypeId}{d:TypeDesc}{a:Addr}{vs:List Value}{bytes:Nat}{z:Value}(ht:P.underlying t=some d)(hd:C5 d=true)(hsz:TI P t vs.length bytes z)(h:∀j u,vs[j]?=some u->w.cell? (a.add j)=some u):(loadVar t a).run P w= .ok (.agg vs.toArray) w:=by
 have:=run_loadCells (P:=P) (w:=w) (a:=a) (vs:=vs) (i:=0) (acc:= #[]) (fun j u hj=>by simpa using h j u hj)
 simp[loadVar,BE ht,hd,hsz.sizeOf,loadCells,this]
theorem Am.LA{x:Operand}{t:TypeId}{d:TypeDesc}{B off i:Nat}{cs:Array Value}{t':TypeId}{fr:Nat×Nat}{v:Value}(ht:P.underlying t=some d)(hd:C5 d=false)(hx:E x=some (ptr B off))(hi:O[i]?=some (.Af B (.cells cs t' fr)))(hv:cs[off]?=some v):
  Am P (.load t x) T E H O v:= .Aj fun ac w o ho _ he hs=>by
 simp only[ptr]at hx
 simp[execOp,ho,he x _ hx,Instr.loadAt,Instr.sureAddr,BT ht hd (hs.Gf hi hv)]
theorem Am.gF{x:Operand}{t:TypeId}{d:TypeDesc}{B off i bytes:Nat}{z:Value}{cs:Array Value}{t':TypeId}{fr:Nat×Nat}{vs:List Value}(ht:P.underlying t=some d)(hd:C5 d=true)(hsz:TI P t vs.length bytes z)(hx:E x=some (ptr B off))(hi:O[i]?=some (.Af B (.cells cs t' fr)))
  (hv:∀j u,vs[j]?=some u->cs[off+j]?=some u):Am P (.load t x) T E H O (.agg vs.toArray):= .Aj fun ac w o ho _ he hs=>by
 simp only[ptr]at hx
 have:=BU (P:=P) (w:=w) (a:=⟨B,off,none⟩) ht hd hsz (fun j u hj=>by rw[Addr.add_lit];exact hs.Gf hi (hv j u hj))
 simp[execOp,ho,he x _ hx,Instr.loadAt,Instr.sureAddr,this]
theorem jD.cells{H:Hp}{w:World}{O:List Ao}(hs:SH w H O){v:Value}{k:Nat}{vs:List Value}(h0:vs≠ [])(h:∀j u,vs[j]?=some u->C8 H (AE v (k+j)) u):
  ∃a:Addr,AE v k= .pointer (some a)/\∀j u,vs[j]?=some u->w.cell? (a.add j)=some u:=by
 cases v with
 |slice b n c=>
  cases b with
  |none=>
   cases vs with
   |nil=>exact absurd rfl h0
   |cons y ys=>
    obtain⟨a,h1,_⟩:=(h 0 y rfl).cell hs
    simp[AE,undef]at h1
  |some b=>
   refine⟨b.add k,rf,fun j u hj=>?_⟩
   obtain⟨a,h1,h2⟩:=(h j u hj).cell hs
   simp only[AE,Value.pointer.injEq,Option.some.injEq]at h1
   rw[<-h1]at h2
   rw[Cv];exact h2
 |_=>
  cases vs with
  |nil=>exact absurd rfl h0
  |cons y ys=>
   obtain⟨a,h1,_⟩:=(h 0 y rfl).cell hs
   simp[AE,undef]at h1
theorem Am.n6{x:Operand}{t e:TypeId}{d:TypeDesc}{v u:Value}{i k size n:Nat}{xs:List Value}(ht:P.underlying t=some d)(hd:C5 d=false)(hx:E x=some (AE v k))(hi:O[i]?=some (.row v e size n xs))(hu:xs[k]?=some u):
  Am P (.load t x) T E H O u:= .Aj fun ac w o ho _ he hs=>by
 obtain⟨a,h1,_,_,h2,_⟩:=hs.Xr hi hu
 rw[h1]at hx
 simp[execOp,ho,he x _ hx,Instr.loadAt,Instr.sureAddr,BT ht hd h2]
theorem Am.gE{x:Operand}{t e:TypeId}{d:TypeDesc}{v:Value}{i k size n bytes:Nat}{z:Value}{xs vs:List Value}(ht:P.underlying t=some d)(hd:C5 d=true)(hsz:TI P t vs.length bytes z)(h0:vs≠ [])(hx:E x=some (AE v k))(hi:O[i]?=some (.row v e size n xs))(hu:∀j u,vs[j]?=some u->xs[k+j]?=some u):
  Am P (.load t x) T E H O (.agg vs.toArray):= .Aj fun ac w o ho _ he hs=>by
 have h:=hs.ok i _ hi
 simp only[Ao.ok]at h
 rcases h.2 with⟨rfl,rfl⟩|⟨g,cap,cur,rfl,_,hg,_,_,_,htake⟩
 ·have hxs:xs=[]:=List.eq_nil_of_length_eq_zero (by simpa using h.1)
  subst hxs
  cases vs with
  |nil=>exact absurd rfl h0
  |cons y ys=>have:=hu 0 y rfl;simp at this
 ·have h2:∀j u,vs[j]?=some u->w.cell? ((Addr.add ⟨g,0,none⟩ k).add j)=some u:=fun j u hj=>by
   have:=h.cells (g:=g) rfl (k+j) u (hu j u hj)
   rw[Cv];exact this
  simp only[AE]at hx
  simp[execOp,ho,he x _ hx,Instr.loadAt,Instr.sureAddr,BU (w:=w) ht hd hsz h2]
end
end Go.GK
namespace Go.GK
theorem DT(w:World)(g:Nat)(cs:Array Value):w.grownBy (w.setRow g cs) (some g):=
 ⟨rfl,rfl,rfl,by simp,fun k _ hk=>setRow_other w g k cs (fun e=>hk (by rw[e]))⟩
def BZ(xs:List Value)(off:Nat)(vs:List Value):List Value:=xs.take off++vs++xs.drop (off+vs.length)
theorem Qs(xs:List Value)(off:Nat)(v:Value)(h:off<xs.length):BZ xs off [v]=xs.set off v:=by
 unfold BZ
 rw[List.set_eq_take_append_cons_drop]
 simp[h]
theorem GI(xs:List Value)(off:Nat)(vs:List Value)(h:off+vs.length<=xs.length):(BZ xs off vs).length=xs.length:=by
 unfold BZ;simp;omega
theorem TX(xs:List Value)(off m:Nat)(vs:List Value)(h:off+vs.length<=m)(h2:m<=xs.length):(BZ xs off vs).take m=BZ (xs.take m) off vs:=by
 unfold BZ
 have h1:(xs.take off++vs).length=off+vs.length:=by simp;omega
 rw[List.take_append,h1,List.take_of_length_le (by omega),List.take_take,Nat.min_eq_left (by omega),List.drop_take]
theorem Iw{P:Program}{w:World}{t:TypeId}{v:Value}{g off bytes:Nat}{z:Value}{cur:Array Value}{e:TypeId}(hsz:TI P t v.cells.size bytes z)(hg:w.heap[g]?=some (.cells cur e (0,0)))(hfit:off+v.cells.size<=cur.size)
  (h1:∀u∈v.cells,u.oneCell'=true):(storeVar t ⟨g,off,none⟩ v).run P w= .ok () (w.setRow g (BZ cur.toList off v.cells.toList).toArray):=by
 have:=run_storeCells_at (P:=P) g off e v.cells.toList 0 cur w hg (by simpa using hfit) (fun u hu=>h1 u (by simpa using hu))
 simp only[Nat.add_zero]at this
 simp[storeVar,hsz.sizeOf,this,BZ]
section
variable {P : Program} {Q : Exit -> Act -> World -> Prop} {n : Nat} {L : List (Nat × Value)} {H : Hp} {O : List Ao} {ops : Array Oper} {rest : List Oper}
variable {T : TypeId} {E : Operand -> Option Value}
theorem Bl.mono{op:Op}{R R':Value->Hp->List Ao->Prop}(h:Bl P op T E H O R)(hr:∀v H' O',R v H' O'->R' v H' O'):Bl P op T E H O R':=
 fun a w o next Q h1 h2 h3 h4 h5=>h a w o next Q h1 h2 h3 h4 fun v w' H' O' g1 g2 g3=>h5 v w' H' O' g1 (hr _ _ _ g2) g3
theorem Bl.Aj{op:Op}{R:Value->Hp->List Ao->Prop}(h:∀(a:Act) (w:World) (o:Oper),o.op=op->o.type=T->(∀x u,E x=some u->a.eval x=u)->SH w H O->
  ∃v w' H' O',(execOp a.eval o).run P w= .ok (.value v) w'/\H.le H'/\R v H' O'/\SH w' H' O'):Bl P op T E H O R:=by
 intro a w o next Q h1 h2 h3 h4 h5
 obtain⟨v,w',H',O',g1,g2,g3,g4⟩:=h a w o h1 h2 h3 h4
 unfold Oper.wp
 rw[g1]
 exact h5 v w' H' O' g2 g3 g4
theorem Bl.Jj{op:Op}{R:Value->Hp->List Ao->Prop}(h:∀(a:Act) (w:World) (o:Oper),o.op=op->o.type=T->(∀x u,E x=some u->a.eval x=u)->SH w H O->
  ∃w' H' O',(execOp a.eval o).run P w= .ok .skip w'/\H.le H'/\R undef H' O'/\SH w' H' O'):Bl P op T E H O R:=by
 intro a w o next Q h1 h2 h3 h4 h5
 obtain⟨w',H',O',g1,g2,g3,g4⟩:=h a w o h1 h2 h3 h4
 unfold Oper.wp
 rw[g1]
 exact h5 undef w' H' O' g2 g3 g4
theorem Bl.Nz{x y:Operand}{t:TypeId}{v z:Value}{i B off bytes size:Nat}{cs:Array Value}{e:TypeId}{vs:List Value}(hx:E x=some (ptr B off))(hy:E y=some v)(hv:v.cells.toList=vs)(hsz:TI P t size bytes z)(hs:vs.length=size)
  (h1:∀u∈vs,u.oneCell'=true) (hi:O[i]?=some (.Af B (.cells cs e (0,0)))) (hfit:off+vs.length<=cs.size):
  Bl P (.store t x y) T E H O (fun _ H' O'=>H'=H/\O'=O.set i (.Af B (.cells (BZ cs.toList off vs).toArray e (0,0)))):= .Jj fun a w o ho _ he hw=>by
 have hg:=hw.ok i _ hi
 simp only[Ao.ok]at hg
 have hsize:v.cells.size=vs.length:=by rw[<-hv];simp
 have hst:=Iw (P:=P) (w:=w) (t:=t) (v:=v) (g:=B) (off:=off) (e:=e) (by rw[hsize,hs];exact hsz) hg (by omega) (fun u hu=>h1 u (by rw[<-hv];simpa using hu))
 simp only[ptr]at hx
 rw[hv]at hst
 refine⟨_,H,_,?_,Hp.le.refl H,⟨rf,rf⟩,hw.set hi (DT w B _) (setRow_heap w B cs _ e _ hg) (fun b hb=> .inl hb)⟩
 simp[execOp,ho,he x _ hx,he y _ hy,Instr.storeAt,Instr.sureAddr,hst]
theorem Eb.Nz{pos:String}{af:Array Edge}{x y:Operand}{t:TypeId}{v z:Value}{i B off bytes size:Nat}{cs cs':Array Value}{e:TypeId}{vs:List Value}(hx:ev L x=some (ptr B off))(hy:ev L y=some v)(hv:v.cells.toList=vs)(hsz:TI P t size bytes z)(hs:vs.length=size)
  (h1:∀u∈vs,u.oneCell'=true) (hi:O[i]?=some (.Af B (.cells cs e (0,0)))) (hfit:off+vs.length<=cs.size) (hcs:(BZ cs.toList off vs).toArray=cs')
  (k:Eb P ops Q rest n L H (O.set i (.Af B (.cells cs' e (0,0))))):
  Eb P ops Q ({dst:=none,op:= .store t x y,type:=T,pos,after:=af,guard:=none} ::rest) n L H O:=
 Eb.uk (Bl.Nz hx hy hv hsz hs h1 hi hfit) (by rintro v H' O' _ ⟨rfl,rfl⟩;subst hcs;exact k)
theorem Eb.ei{pos:String}{af:Array Edge}{x y:Operand}{t:TypeId}{v z:Value}{i B off bytes:Nat}{cs:Array Value}{e:TypeId}(hx:ev L x=some (ptr B off))(hy:ev L y=some v)(hv:v.oneCell'=true)(hsz:TI P t 1 bytes z)
  (hi:O[i]?=some (.Af B (.cells cs e (0,0)))) (hfit:off<cs.size)
  (k:Eb P ops Q rest n L H (O.set i (.Af B (.cells (cs.setIfInBounds off v) e (0,0))))):
  Eb P ops Q ({dst:=none,op:= .store t x y,type:=T,pos,after:=af,guard:=none} ::rest) n L H O:=by
 have hc:v.cells.toList=[v]:=by cases v<;>simp_all [Value.cells,Value.oneCell']
 refine Eb.Nz hx hy hc hsz rfl (fun u hu=>by simp at hu;subst hu;exact hv) hi (by simp;omega) ?_ k
 rw[Qs _ _ _ (by simpa using hfit)]
 rw[<-Array.toList_setIfInBounds]
theorem Bl.ns{x y:Operand}{t:TypeId}{v u z:Value}{i m size k bytes sz:Nat}{xs:List Value}{e:TypeId}{vs:List Value}(hx:E x=some (AE v k))(hy:E y=some u)(hv:u.cells.toList=vs)(hsz:TI P t sz bytes z)(hs:vs.length=sz)(h0:0<sz)
  (h1:∀u∈vs,u.oneCell'=true) (hi:O[i]?=some (.row v e size m xs)) (hfit:k+vs.length<=xs.length):
  Bl P (.store t x y) T E H O (fun _ H' O'=>H'=H/\O'=O.set i (.row v e size m (BZ xs k vs))):= .Jj fun a w o ho _ he hw=>by
 have hok:=hw.ok i _ hi
 simp only[Ao.ok]at hok
 rcases hok.2 with⟨rfl,rfl⟩|⟨g,cap,cur,rfl,hb,hg,hn,hm,hcs,htake⟩
 ·have:xs=[]:=List.eq_nil_of_length_eq_zero (by simpa using hok.1)
  subst this;simp at hfit;simp[hfit]at hs;omega
 ·have hsize:u.cells.size=vs.length:=by rw[<-hv];simp
  have hmn:m*size<=cur.size:=by rw[hcs];exact Nat.mul_le_mul_right _ hn
  have hfit':k+vs.length<=m*size:=by rw[<-hok.1];exact hfit
  have hst:=Iw (P:=P) (w:=w) (t:=t) (v:=u) (g:=g) (off:=k) (e:=e) (by rw[hsize,hs];exact hsz) hg (by omega) (fun u hu=>h1 u (by rw[<-hv];simpa using hu))
  rw[hv]at hst
  simp only[AE,Addr.add_lit,Nat.zero_add]at hx
  refine⟨_,H,_,?_,Hp.le.refl H,⟨rf,rf⟩,hw.set hi (DT w g (BZ cur.toList k vs).toArray) (r':= .row (.slice (some ⟨g,0,none⟩) m cap) e size m (BZ xs k vs)) ?_ (fun b hb=> .inl hb)⟩
  ·simp[execOp,ho,he x _ hx,he y _ hy,Instr.storeAt,Instr.sureAddr,hst]
  ·refine⟨by rw[GI _ _ _ hfit];exact hok.1, .inr ⟨g,cap,_,rf,hb,setRow_heap w g cur _ e _ hg,hn,hm,?_,?_⟩⟩
   ·simp only[List.size_toArray];rw[GI _ _ _ (by simp;omega)];simpa using hcs
   ·show(BZ cur.toList k vs).take (m*size)=_
    rw[TX _ _ _ _ hfit' (by simpa using hmn),htake]
theorem SH.Fx{w:World}(hs:SH w H O)(e:TypeId)(size:Nat):SH w H (.row (.slice none 0 0) e size 0 []::O):=
 hs.push (World.grownBy.refl w none) (World.ownsRow_nil w 0 e size) (fun b hb=>by simp[Ao.has,Value.ownBlock]at hb)
def TH(E:Operand->Option Value):List (Nat×Operand)->Option (List (Nat×Value))
 | []=>some []
 |(i,x)::r=>match E x,TH E r with
  |some v,some vs=>some ((i,v)::vs)
  |_,_=>none
theorem FG{E:Operand->Option Value}{a:Act}(he:∀x u,E x=some u->a.eval x=u):∀ {ps:List (Nat×Operand)} {vs:List (Nat×Value)},TH E ps=some vs->ps.map (fun p=>(p.1,a.eval p.2))=vs
 | [],vs,h=>by simpa [TH]using h
 |(i,x)::r,vs,h=>by
  simp only[TH]at h
  cases h1:E x with
  |none=>simp[h1]at h
  |some v=>
   cases h2:TH E r with
   |none=>simp[h1,h2]at h
   |some us=>
    simp[h1,h2]at h
    subst h
    simp[he x v h1]
    have:=FG he h2
    simpa using this
theorem Am.build{t:TypeId}{size bytes:Nat}{z:Value}{fs:Array Field}{zs cs:Array Value}{ps:List (Nat×Operand)}{vs:List (Nat×Value)}{places:Array (Nat×Nat)}(ht:P.underlying t=some (.struct fs))(hz:TI P t size bytes z)(hzc:z.cells=zs)
  (hp:∀w,(fs.mapM fun f=>do pure (f.offset,<-Go.sizeOf f.type):Sem (Array (Nat×Nat))).run P w= .ok places w) (hps:TH E ps=some vs) (hf:Instr.fill (places[·]?) zs vs=some cs):Am P (.build t ps.toArray) T E H O (.agg cs):= .Aj fun a w o ho _ he _=>by
 have h1:(ps.toArray.map fun(i,x)=>(i,a.eval x)).toList=vs:=by simpa using FG he hps
 simp only[execOp,ho,Instr.build,Sem.run_bind,hz.zeroValue,Result.andThen_ok,AG ht,hzc]
 rw[hp w]
 simp only[Result.andThen_ok,h1,hf]
 rfl
theorem Am.iZ{t e:TypeId}{len size bytes esize ebytes:Nat}{z ez:Value}{zs cs:Array Value}{ps:List (Nat×Operand)}{vs:List (Nat×Value)}(ht:P.underlying t=some (.array len e))(hz:TI P t size bytes z)(hze:TI P e esize ebytes ez)(hzc:z.cells=zs)
  (hps:TH E ps=some vs) (hf:Instr.fill (fun i=>some (i*esize,esize)) zs vs=some cs):Am P (.build t ps.toArray) T E H O (.agg cs):= .Aj fun a w o ho _ he _=>by
 have h1:(ps.toArray.map fun(i,x)=>(i,a.eval x)).toList=vs:=by simpa using FG he hps
 simp only[execOp,ho,Instr.build,Sem.run_bind,hz.zeroValue,Result.andThen_ok,AG ht,hzc,hze.sizeOf,h1,hf]
 rfl
theorem SE(l:List Value):∀(k:Nat) (acc:Array Value) (i:Nat),((l.zipIdx k).foldl (fun cs (p:Value×Nat)=>cs.setIfInBounds p.2 p.1) acc)[i]?=if k<=i/\i<k+l.length/\i<acc.size then l[i-k]? else acc[i]?:=by
 induction l with
 |nil=>intro k acc i;simp;intro h1 h2;omega
 |cons v l ih=>
  intro k acc i
  rw[List.zipIdx_cons,List.foldl_cons,ih (k+1) (acc.setIfInBounds k v) i]
  simp only[Array.size_setIfInBounds,Array.getElem?_setIfInBounds,List.length_cons]
  by_cases h1:k=i
  ·subst h1
   by_cases h2:k<acc.size
   ·have e1:¬(k+1<=k):=by omega
    have e2:k<k+(l.length+1):=by omega
    simp[e1,h2,e2]
   ·have e1:¬(k+1<=k):=by omega
    simp[e1,h2]
  ·by_cases h2:k<=i
   ·have e1:k+1<=i:=by omega
    have e3:(i<k+1+l.length)↔(i<k+(l.length+1)):=by omega
    have e4:i-k=(i-(k+1))+1:=by omega
    simp only[e1,h2,true_and,e3,h1,if_false,e4,List.getElem?_cons_succ]
   ·have e1:¬(k+1<=i):=by omega
    simp[e1,h2,h1]
def Src(w:World)(x:Value)(size m:Nat)(news:List Value):Prop:=news.length=m*size/\((x= .slice none 0 0/\m=0)\/∃ad c,x= .slice (some ad) m c/\∀j u,news[j]?=some u->w.cell? (ad.add j)=some u)
theorem SH.ek{w:World}(hs:SH w H O){i m size:Nat}{v:Value}{e:TypeId}{xs:List Value}(hi:O[i]?=some (.row v e size m xs)):Src w v size m xs:=by
 have h:=hs.ok i _ hi
 simp only[Ao.ok]at h
 refine⟨h.1,?_⟩
 rcases h.2 with⟨rfl,rfl⟩|⟨g,cap,cur,rfl,_⟩
 ·exact .inl ⟨rf,rf⟩
 ·exact .inr ⟨_,_,rf,h.cells (g:=g) rf⟩
theorem SH.O5{w:World}(hs:SH w H O){m size:Nat}{v:Value}{xs:List Value}(hl:Sl H v size m xs):Src w v size m xs:=by
 refine⟨hl.len,?_⟩
 rcases hl.sl with⟨rfl,rfl⟩|⟨a,cap,rfl,_⟩
 ·exact .inl ⟨rf,rf⟩
 ·refine .inr ⟨_,_,rf,fun j u hj=>?_⟩
  obtain⟨a',h1,h2⟩:=(hl.cells j u hj).cell hs
  simp only[AE,Value.pointer.injEq,Option.some.injEq]at h1
  rw[h1];exact h2
theorem Bl.append{s x:Operand}{t e:TypeId}{size bytes:Nat}{z:Value}{v y:Value}{i m m':Nat}{xs news:List Value}(ht:P.underlying t=some (.slice e))(hz:TI P e size bytes z)(hzs:z.cells.size=size)(h0:0<size)(hs:E s=some v)(hx:E x=some y)
  (hi:O[i]?=some (.row v e size m xs)) (hsrc:∀w,SH w H O->Src w y size m' news) (h1:∀u∈news,u.oneCell'=true) (hb:(m+m')*bytes<=140737488355328) (hl:m+m'<=140737488355328):
  Bl P (.call {callee:= .builtin .append,args:= #[s,x],argTypes:= #[t,t]}) T E H O (fun v' H' O'=>H'=H/\O'=O.set i (.row v' e size (m+m') (xs++news))):=by
 intro a w o next Q ho hT he hw k
 have hown:=hw.ok i _ hi
 simp only[Ao.ok]at hown
 obtain⟨ii,hii,g1,g2,g3⟩:=hz.ex
 have key:∀v' w',w'.ownsRow 0 e size v' (m+m') (xs++news)->w.grownBy w' v.ownBlock->(v'.ownBlock=v.ownBlock\/∀b,v'.ownBlock=some b->w.heap.size<=b)->next (a.put o.dst v') w':=fun v' w' k1 k2 k3=>
  k v' w' H _ (Hp.le.refl H) ⟨rfl,rfl⟩ (hw.set hi k2 k1 (fun b hb=>by
   rcases k3 with k3|k3
   ·left;rw[Ao.has]at hb⊢;rw[<-k3];exact hb
   ·exact .inr (k3 b hb)))
 obtain⟨hlen,hsrc⟩:=hsrc w hw
 rcases hsrc with⟨rfl,rfl⟩|⟨ad,c,rfl,hcells⟩
 ·have hn:news=[]:=List.eq_nil_of_length_eq_zero (by simpa using hlen)
  subst hn
  have hrun:=run_append_owned_none (P:=P) (w:=w) 0 t o.type e ii size ht hii v m xs hown
  unfold Oper.wp
  simp[execOp,ho,resolve,invoke,builtin,he s _ hs,he x _ hx,hrun,Result.andThen]
  exact key v w (by simpa using hown) (World.grownBy.refl _ _) (.inl rf)
 ·obtain⟨v',w',hr,k1,k2,k3⟩:=run_append_own (P:=P) w 0 t o.type e ii z size bytes ht hii g3 g1 g2 hzs h0 v m xs hown ad m' c news hlen hcells h1 (by simp only[maxLen];omega) hb (Nat.zero_le _)
  unfold Oper.wp
  simp[execOp,ho,resolve,invoke,builtin,he s _ hs,he x _ hx,hr,Result.andThen]
  refine key v' w' k1 k2 ?_
  subst g1
  rcases hown.2 with⟨rfl,rfl⟩|⟨g,cap,cur,rfl,_,hg,hnc,_,hcs,htake⟩
  ·right
   have hx0:xs=[]:=List.eq_nil_of_length_eq_zero (by simpa using hown.1)
   subst hx0
   obtain⟨v2,w2,hr2,q1,_,_⟩:=run_append_own (P:=P) w w.heap.size t o.type e ii z ii.size bytes ht hii g3 rfl g2 hzs h0 (.slice none 0 0) 0 [] (World.ownsRow_nil w _ e _) ad m' c news hlen hcells h1 (by simp only[maxLen];omega) hb (Nat.le_refl _)
   rw[hr]at hr2
   injection hr2 with e1 e2
   subst e1;subst e2
   exact fun b hb=>(World.ownsRow.lt q1 b hb).1
  ·by_cases hroom:m+m'<=cap
   ·left
    have hfit:m*ii.size+news.length<=cur.size:=by rw[hlen,hcs,<-Nat.add_mul];exact Nat.mul_le_mul_right _ hroom
    have hr2:=run_append_room (P:=P) w t o.type e ii ht hii g m cap cur hg ad m' c news hlen hcells h1 hroom hfit
    rw[hr]at hr2
    injection hr2 with e1 e2
    rw[e1];rfl
   ·right
    have hr2:=run_append_grow (P:=P) w t o.type e ii z ht hii g3 ⟨g,0,none⟩ m cap xs hown.1 (hown.cells (g:=g) rfl) ad m' c news hlen hcells (by omega) (by omega) (growslice_fits (by omega) (by rw[g2];exact hb))
    rw[hr]at hr2
    injection hr2 with e1 e2
    intro b hb
    rw[e1]at hb
    simp[Value.ownBlock]at hb
    omega
structure Nb(P:Program)(f:FuncId):Prop where
 ex:∃fn,P.funcs[f]?=some fn/\(fn.name== "runtime.NumGoroutine")=false/\fn.body.isNone=false
theorem Nb.run{f:FuncId}(h:Nb P f)(args:Array Value)(w:World):(callFunc f args).run P w= .ok (.enter f args) w:=by
 obtain⟨fn,h1,h2,h3⟩:=h.ex
 have h2':¬fn.name= "runtime.NumGoroutine" :=by simpa using h2
 have h3':¬fn.body=none:=fun h=>by simp[h]at h3
 simp[callFunc,h1,h2',h3']
def Ku(E:Operand->Option Value):List Operand->Option (List Value)
 | []=>some []
 |x::xs=>match E x,Ku E xs with
  |some v,some vs=>some (v::vs)
  |_,_=>none
theorem EJ{a:Act}(he:∀x u,E x=some u->a.eval x=u):∀ {xs:List Operand} {vs:List Value},Ku E xs=some vs->xs.map a.eval=vs
 | [],vs,hx=>by simpa [Ku]using hx
 |x::xs,vs,hx=>by
  simp only[Ku]at hx
  cases h1:E x with
  |none=>simp[h1]at hx
  |some v=>
   cases h2:Ku E xs with
   |none=>simp[h1,h2]at hx
   |some us=>
    simp[h1,h2]at hx
    subst hx
    simp[he x v h1,EJ he h2]
def sN(H:Hp)(R:Value->Hp->List Ao->Prop)(e:Ending)(w':World):Prop:= ∃v H' O',e= .returned v/\H.le H'/\SH w' H' O'/\R v H' O'
def L4(P:Program)(f:FuncId)(args:List Value)(H:Hp)(O:List Ao)(R:Value->Hp->List Ao->Prop):Prop:= ∀w,SH w H O->Calls P f args.toArray w (sN H R)
def Zh(P:Program)(f:FuncId)(args:List Value)(H:Hp)(O:List Ao)(v:Value):Prop:= ∀w,SH w H O->Calls P f args.toArray w fun e w'=>e= .returned v/\SH w' H O
theorem L4.mono{f:FuncId}{args:List Value}{R R':Value->Hp->List Ao->Prop}(h:L4 P f args H O R)(hr:∀v H' O',H.le H'->R v H' O'->R' v H' O'):L4 P f args H O R':=fun w hs=>
 (h w hs).mono fun _ _ ⟨v,H',O',h1,h2,h3,h4⟩=>⟨v,H',O',h1,h2,h3,hr _ _ _ h2 h4⟩
theorem Bl.call{f:FuncId}{args:List Operand}{vs:List Value}{tys:Array TypeId}{R:Value->Hp->List Ao->Prop}(hent:Nb P f)(ha:Ku E args=some vs)(ht:L4 P f vs H O R):Bl P (.call {callee:= .value (.func f),args:=args.toArray,argTypes:=tys}) T E H O R:=fun a w o next Q ho _ he hs k=>by
 have hr:(execOp a.eval o).run P w= .ok (.enter f vs.toArray) w:=by
  simp[execOp,ho,resolve,Deferred.ofValue,Act.eval,invoke,EJ he ha,hent.run]
 unfold Oper.wp
 rw[hr]
 refine(ht w hs).mono ?_
 rintro e w' ⟨v,H',O',rfl,h2,h3,h4⟩
 exact k v w' H' O' h2 h4 h3
def Gn:Nat->List Value->List (Nat×Value)
 |_,[]=>[]
 |i,v::vs=>(i,v)::Gn (i+1) vs
theorem L0:∀(vs:List Value) (i t:Nat) (v:Value),lk (Gn i vs) t=some v->i<=t/\vs[t-i]?=some v
 | [],_,_,_,h=>by simp[Gn,lk]at h
 |u::us,i,t,v,h=>by
  simp only[Gn,lk]at h
  cases hb:Nat.beq i t with
  |true=>
   rw[hb]at h
   have:=Nat.eq_of_beq_eq_true hb
   subst this
   simp at h;subst h
   exact⟨Nat.le_refl _,by simp⟩
  |false=>
   rw[hb]at h
   have ne:=Nat.ne_of_beq_eq_false hb
   obtain⟨h1,h2⟩:=L0 us (i+1) t v h
   refine⟨by omega,?_⟩
   rw[show t-i=(t-(i+1))+1 by omega]
   simpa using h2
theorem Fr.enter(vs:List Value)(n:Nat)(h:Nat.ble vs.length n=true):Fr {tmps:=vs.toArray++Array.replicate (n-vs.toArray.size) undef,defers:=[]} n (Gn 0 vs):=by
 have h':=Nat.le_of_ble_eq_true h
 refine⟨rf,by simp;omega,fun t v hv=>?_⟩
 obtain⟨_,h2⟩:=L0 vs 0 t v hv
 simp at h2
 have hlt:t<vs.length:=(List.getElem?_eq_some_iff.1 h2).1
 have h3:vs[t]=v:=by rw[List.getElem?_eq_getElem hlt]at h2;exact Option.some.inj h2
 simp[Array.getElem?_append,hlt,h3]
theorem aZ{f:FuncId}{fn:Func}{c:Code}{vs:List Value}{X:Ending->World->Prop}(hf:P.funcs[f]?=some fn)(hb:fn.body=some c)(hn:fn.ntmps=n)(ha:Nat.ble vs.length n=true)
  (h:Wp P c (bodyPost P fn X) n (Gn 0 vs) H O) {w:World} (hs:SH w H O):Calls P f vs.toArray w X:=by
 subst hn
 exact calls_of_wp hf hb (h _ w (Fr.enter vs _ ha) hs)
def Pb(tmps:Array Value)(r:ResultVar):Sem Value:=match r with
 | .tmp t=>pure (tmps.getD t undef)
 | .cell ad t=>do loadVar t (<-asAddr (tmps.getD ad undef))
theorem GM(fn:Func)(tmps:Array Value):results fn tmps=(do let vs<-fn.results.mapM (Pb tmps);pure (if h:vs.size=1 then vs[0]else .tuple vs)):=by
 have:(fun r=>match r with
  | .tmp t=>(pure (tmps.getD t undef):Sem Value)
  | .cell ad t=>do loadVar t (<-asAddr (tmps.getD ad undef)))=Pb tmps:=by funext r;cases r<;>rfl
 unfold results
 rw[<-this]
 rfl
theorem At.bh{fn:Func}{X:Ending->World->Prop}(hr:fn.results= #[])(k:∀w,SH w H O->X (.returned (.tuple #[])) w):At (bodyPost P fn X) .normal n L H O:=fun a w hf hs=>⟨hf.defers,_,by simp[results,hr],k w hs⟩
end
theorem SH.weaken{w:World}{H H':Hp}{O:List Ao}(h:SH w H' O)(hle:H.le H'):SH w H O where
 K3 b o hb:=h.K3 b o (hle.1 b o hb)
 os:=h.os.trans hle.2.1
 output:=h.output.trans hle.2.2.1
 tape:=h.tape.trans hle.2.2.2
 ok:=h.ok
 Ii i r b hi hb:=by
  have:=h.Ii i r b hi hb
  cases he:H.at_ b with
  |none=>rfl
  |some o=>rw[hle.1 b o he]at this;cases this
 nd:=h.nd
theorem SH.VD{w:World}{H:Hp}{O:List Ao}(h:SH w H O)(k:Nat):SH w H (O.drop k):=
 h.pick (fun i=>k+i) (fun i r hr=>by simpa using hr) (fun i j _ _ h=>by omega)
section
variable {P : Program} {T : TypeId} {E : Operand -> Option Value} {H : Hp} {O : List Ao}
theorem Am.gV{x y:Operand}{t e:TypeId}{d:TypeDesc}{len size bytes:Nat}{z:Value}{k:IntKind}{i:Int}{cs:Array Value}(ht:P.underlying t=some (.array len e))(he:P.underlying e=some d)(hd:C5 d=true)(hz:TI P e size bytes z)(hx:E x=some (.agg cs))(hy:E y=some (.int k i))(h:0<=i/\i<len):
  Am P (.index t x y) T E H O (.agg (cs.extract (i.toNat*size) (i.toNat*size+size))):= .Aj fun ac w o ho _ he' _=>by
 simp[execOp,ho,he' x _ hx,he' y _ hy,Instr.index,asIntOf,AG ht,h,hz.sizeOf,part,BE he,hd]
end
end Go.GK
namespace Go.GK
open Go.RowKit Go.Deep
def Hp.of(W:World):Hp:= {at_:=fun b=>W.heap[b]?,os:=W.os,output:=W.output,tape:=W.tape}
theorem SH.start(W:World):SH W (Hp.of W) []:=
 ⟨fun _ _ h=>h,rfl,rfl,rfl,fun i r h=>by simp at h,fun i r b h=>by simp at h,fun i j r r' b h=>by simp at h⟩
theorem SH.below{W w':World}{O:List Ao}(h:SH w' (Hp.of W) O):Below W.heap.size W w':=by
 have hb:∀k,k<W.heap.size->w'.heap[k]?=W.heap[k]?:=fun k hk=>by
  have:=h.K3 k W.heap[k] (by simp[Hp.of,hk])
  rw[this];simp[hk]
 refine⟨h.os,h.tape,h.output,?_,hb⟩
 rcases Nat.eq_zero_or_pos W.heap.size with h0|h0
 ·omega
 ·have:=hb (W.heap.size-1) (by omega)
  rw[show W.heap[W.heap.size-1]?=some W.heap[W.heap.size-1] by simp]at this
  have:=(Array.getElem?_eq_some_iff.1 this).1
  omega
section
variable {H : Type} {enc : TypeId × Value -> H} {P : Program} {w : World} {base : Nat} {spare : Nat -> Bool} {held : Bool}
theorem C8.XM{a:Addr}{u:Value}(h:w.cell? a=some u):C8 (Hp.of w) (.pointer (some a)) u:=by
 unfold World.cell? at h
 cases hb:w.heap[a.block]? with
 |none=>simp[hb]at h
 |some o=>
  cases o with
  |cells c t fr=>
   simp only[hb]at h
   cases hs:a.spot with
   |none=>simp[hs]at h;exact⟨a,c,t,fr,rfl,hs,hb,h⟩
   |some x=>simp[hs]at h
  |_=>simp[hb]at h
theorem IW{α:Type}{Q:Nat->α->Prop} :∀n:Nat,(∀i,i<n->∃a,Q i a)->∃l:List α,l.length=n/\∀i a,l[i]?=some a->Q i a
 |0,_=>⟨[],rfl,fun i a h=>by simp at h⟩
 |n+1,h=>by
  obtain⟨l,h1,h2⟩:=IW n fun i hi=>h i (by omega)
  obtain⟨a,ha⟩:=h n (by omega)
  refine⟨l++[a],by simp[h1],fun i b hb=>?_⟩
  by_cases hi:i<n
  ·rw[List.getElem?_append_left (by omega)]at hb;exact h2 i b hb
  ·have e:i=n:=by have:=(List.getElem?_eq_some_iff.1 hb).1;simp at this;omega
   subst e
   rw[List.getElem?_append_right (by omega)]at hb
   simp[h1]at hb;subst hb;exact ha
end
end Go.GK
namespace Go.GK
structure Zk(P:Program)(s i off ft:Nat):Prop where
 ex:∃fs f,P.underlying s=some (.struct fs)/\fs[i]?=some f/\f.offset=off/\f.type=ft/\∃inf,P.info? ft=some inf/\inf.size≠0
def Yu(P:Program)(s i:Nat):Option (Nat×Nat×Nat):=
 match P.underlying s with
 |some (.struct fs)=>match fs[i]? with
  |some f=>match P.info? f.type with
   |some inf=>some (f.offset,f.type,inf.size)
   |none=>none
  |none=>none
 |_=>none
theorem Zk.of{P:Program}{s i off ft k:Nat}(h:Yu P s i=some (off,ft,k+1)):Zk P s i off ft:=by
 unfold Yu at h
 split at h
 ·rename_i fs hs
  split at h
  ·rename_i f hf
   split at h
   ·rename_i inf hi
    simp only[Option.some.injEq,Prod.mk.injEq]at h
    obtain⟨h1,h2,h3⟩:=h
    exact⟨fs,f,hs,hf,h1,h2,inf,by rw[<-h2];exact hi,by omega⟩
   ·cases h
  ·cases h
 ·cases h
section
variable {P : Program} {T : TypeId} {E : Operand -> Option Value} {H : Hp} {O : List Ao} {x y : Operand}
theorem Iy{w:World}{s i off ft:Nat}{a:Addr}(hf:Zk P s i off ft):(Instr.fieldAt s (.pointer (some a)) i).run P w= .ok (.pointer (some (a.add off))) w:=by
 obtain⟨fs,f,hs,hfi,ho,ht,inf,hi,h0⟩:=hf.ex
 subst ho ht
 have hsz:(Go.sizeOf f.type).run P w= .ok inf.size w:=by simp[Go.sizeOf,typeInfo,hi]
 simp[Instr.fieldAt,AG hs,hfi,Instr.sureAddr,fieldPlace,hsz,h0]
theorem Am.oD{s i off ft B o o':Nat}(hf:Zk P s i off ft)(hx:E x=some (ptr B o))(ho':o+off=o'):Am P (.fieldAddr s x i) T E H O (ptr B o'):= .Aj fun ac w oo ho _ he _=>by
 subst ho'
 simp only[ptr]at*
 have:=Iy (w:=w) (a:=⟨B,o,none⟩) hf
 simp[execOp,ho,he x _ hx,this,Addr.add]
theorem Am.byteOf{t:TypeId}{s:ByteArray}{k:IntKind}{i:Int}{b:UInt8}(ht:P.underlying t=some .string)(hx:E x=some (.string s))(hy:E y=some (.int k i))(h0:0<=i)(hb:s[i.toNat]?=some b):Am P (.index t x y) T E H O (.int .u8 (b.toNat:Nat)):= .Aj fun ac w oo ho _ he _=>by
 simp[execOp,ho,he x _ hx,he y _ hy,Instr.index,asIntOf,AG ht,h0,hb]
end
def LK(P:Program):List Field->List IntKind->Nat->Bool
 |f::fs,k::ks,j=>f.name != "_" &&f.offset==j&&(match P.underlying f.type with|some (.int k')=>k'==k|_=>false)&&LK P fs ks (j+1)
 | [],[],_=>true
 |_,_,_=>false
def N9(P:Program)(t:TypeId)(ks:List IntKind):Bool:=
 match P.underlying t with
 |some (.struct fs)=>LK P fs.toList ks 0&& !P.stoodInHeld t&& !P.eqGuardType P.depth t
 |_=>false
def Cj(ks:List IntKind)(aS:List Int):List Value:=List.zipWith Value.int ks aS
theorem Ee{P:Program}{d:Nat}(w:World):∀(fs:List Field) (ks:List IntKind) (aS bs:List Int) (px py:List Value),LK P fs ks px.length=true->aS.length=ks.length->bs.length=ks.length->px.length=py.length->
  (Op.eqFields (d+1) (px++Cj ks aS).toArray (py++Cj ks bs).toArray fs).run P w= .ok (decide (aS=bs)) w
 | [],ks,aS,bs,px,py,hf,h1,h2,hp=>by
  cases ks with
  |nil=>simp at h1 h2;subst h1 h2;simp[Op.eqFields]
  |cons=>simp[LK]at hf
 |f::fs,ks,aS,bs,px,py,hf,h1,h2,hp=>by
  cases ks with
  |nil=>simp[LK]at hf
  |cons k ks=>
   cases aS with
   |nil=>simp at h1
   |cons a aS=>
    cases bs with
    |nil=>simp at h2
    |cons b bs=>
     simp only[LK,Bool.and_eq_true,bne_iff_ne,ne_eq,beq_iff_eq]at hf
     obtain⟨⟨⟨hn,ho⟩,hk⟩,hr⟩:=hf
     have hu:P.underlying f.type=some (.int k):=by
      split at hk
      ·rename_i k' hu;rw[hu];simp at hk;rw[hk]
      ·cases hk
     have ih:=Ee (P:=P) (d:=d) w fs ks aS bs (px++[.int k a]) (py++[.int k b]) (by simpa using hr) (by simpa using h1) (by simpa using h2) (by simp[hp])
     have e1:px++Cj (k::ks) (a::aS)=(px++[.int k a])++Cj ks aS:=by simp[Cj]
     have e2:py++Cj (k::ks) (b::bs)=(py++[.int k b])++Cj ks bs:=by simp[Cj]
     rw[<-e1,<-e2]at ih
     have p1:(part f.type (px++Cj (k::ks) (a::aS)).toArray f.offset).run P w= .ok (.int k a) w:=by
      simp[part,BE hu,C5,ho,e1]
     have p2:(part f.type (py++Cj (k::ks) (b::bs)).toArray f.offset).run P w= .ok (.int k b) w:=by
      simp[part,BE hu,C5,ho,e2,hp]
     have p3:(Op.equalIn (d+1) f.type (.int k a) (.int k b)).run P w= .ok (a==b) w:=by simp[Op.equalIn,AG hu]
     simp only[Op.eqFields,hn,not_false_eq_true,ne_eq,if_true,Sem.run_bind,p1,p2,p3,Result.andThen_ok]
     by_cases e:a=b
     ·subst e
      simp only[beq_self_eq_true,Bool.not_true,Bool.false_eq_true,if_false,ih,List.cons.injEq,true_and]
     ·simp[e]
section
variable {P : Program} {T : TypeId} {E : Operand -> Option Value} {H : Hp} {O : List Ao} {x y : Operand} {Tx Ty : TypeId} {ks : List IntKind} {xs ys : List Int}
theorem JR{d:Nat}(hs:N9 P Tx ks=true)(w:World)(h1:xs.length=ks.length)(h2:ys.length=ks.length):(Op.equalIn (d+1+1) Tx (.agg (Cj ks xs).toArray) (.agg (Cj ks ys).toArray)).run P w= .ok (decide (xs=ys)) w/\P.eqGuardType P.depth Tx=false:=by
 unfold N9 at hs
 split at hs
 ·rename_i fs hu
  simp only[Bool.and_eq_true,Bool.not_eq_true']at hs
  have hfs:P.fieldsOf Tx=fs:=by simp[Program.fieldsOf,hu]
  refine⟨?_,hs.2⟩
  rw[run_equalIn_agg w (d+1) Tx _ _ (by rw[hfs,hu]) hs.1.2,hfs]
  have:=Ee (P:=P) (d:=d) w fs.toList ks xs ys [] [] hs.1.1 h1 h2 rfl
  simpa using this
 ·cases hs
theorem Am.iw(hs:N9 P Tx ks=true)(hx:E x=some (.agg (Cj ks xs).toArray))(hy:E y=some (.agg (Cj ks ys).toArray))(h1:xs.length=ks.length)(h2:ys.length=ks.length):Am P (.binOp .eql Tx x y Ty) T E H O (.bool (decide (xs=ys))):= .Aj fun a w o ho _ he _=>by
 have h:=JR (d:=9998) hs w h1 h2
 have h4:=run_eqGuard_agg w .eql Tx x y (Cj ks xs).toArray (Cj ks ys).toArray h.2
 have h5:=run_eql_struct (P:=P) w Tx (Cj ks xs).toArray (Cj ks ys).toArray
 rw[h.1]at h5
 simp only[execOp,ho,Sem.run_bind,he x _ hx,he y _ hy,h4,Result.andThen_ok,h5,Sem.run_pure]
theorem Am.ga(hs:N9 P Tx ks=true)(hx:E x=some (.agg (Cj ks xs).toArray))(hy:E y=some (.agg (Cj ks ys).toArray))(h1:xs.length=ks.length)(h2:ys.length=ks.length):Am P (.binOp .neq Tx x y Ty) T E H O (.bool (!decide (xs=ys))):= .Aj fun a w o ho _ he _=>by
 have h:=JR (d:=9998) hs w h1 h2
 have h4:=run_eqGuard_agg w .neq Tx x y (Cj ks xs).toArray (Cj ks ys).toArray h.2
 have h5:=run_neq_struct (P:=P) w Tx (Cj ks xs).toArray (Cj ks ys).toArray
 rw[h.1]at h5
 simp only[execOp,ho,Sem.run_bind,he x _ hx,he y _ hy,h4,Result.andThen_ok,h5,Sem.run_pure]
end
section
variable {P : Program} {T : TypeId} {E : Operand -> Option Value} {H : Hp} {O : List Ao}
def sb(s:ByteArray)(i:Nat):Nat:=(s.data.getD i 0).toNat
end
end Go.GK
namespace Go.GK
def FH(acc:List Nat):List Edge->Nat
 | []=>0
 |e::es=>(if Region.binds .any e then 2^e.on|||acc.getD e.on 0 else 0)|||FH acc es
def HE:List Nat->List Oper->List Nat
 |acc,[]=>acc
 |acc,o::os=>HE (acc++[FH acc o.after.toList]) os
def PY(l:List Oper)(i:Nat):Nat:=(HE [] l).getD i 0
def FT(l:List Oper)(p:Nat->Bool):Prop:= ∀(j:Nat) (o:Oper),l[j]?=some o->p j=true->∀e∈o.after,Region.binds .any e=true->p e.on=true
theorem Gv{acc:List Nat}{j:Nat} :∀ {es:List Edge},(FH acc es).testBit j=true->∃e∈es,Region.binds .any e=true/\(j=e.on\/(acc.getD e.on 0).testBit j=true)
 | [],h=>by simp[FH]at h
 |e::es,h=>by
  simp only[FH,Nat.testBit_or,Bool.or_eq_true]at h
  rcases h with h|h
  ·split at h
   ·rename_i hb
    simp only[Nat.testBit_or,Bool.or_eq_true,Nat.testBit_two_pow,decide_eq_true_eq]at h
    exact⟨e,by simp,hb,h.imp Eq.symm id⟩
   ·simp at h
  ·obtain⟨e',h1,h2⟩:=Gv h
   exact⟨e',by simp[h1],h2⟩
theorem L1{l:List Oper}{p:Nat->Bool}(hc:FT l p):∀(os:List Oper) (acc:List Nat) (pre:List Oper),l=pre++os->acc.length=pre.length->
  (∀i,i<acc.length->∀o,l[i]?=some o->(∀e∈o.after,Region.binds .any e=true->p e.on=true)->∀j,(acc.getD i 0).testBit j=true->p j=true)->
  E' pre.length os=true->
  ∀i,i<l.length->∀o,l[i]?=some o->(∀e∈o.after,Region.binds .any e=true->p e.on=true)->∀j,((HE acc os).getD i 0).testBit j=true->p j=true
 | [],acc,pre,hl,hlen,h,_,i,hi,o,ho,hd,j,hj=>by
  subst hl;simp at hi
  exact h i (by omega) o ho hd j hj
 |o::os,acc,pre,hl,hlen,h,hb,i,hi,oi,hoi,hd,j,hj=>by
  simp only[E',Bool.and_eq_true]at hb
  refine L1 hc os _ (pre++[o]) (by simp[hl]) (by simp[hlen]) ?_ (by simpa using hb.2) i hi oi hoi hd j hj
  clear hj hd hoi hi
  intro i hi' oi' hoi hd j hj
  by_cases e:i<acc.length
  ·rw[List.getD_eq_getElem?_getD,List.getElem?_append_left e,<-List.getD_eq_getElem?_getD]at hj
   exact h i e oi' hoi hd j hj
  ·have e2:i=acc.length:=by simp at hi';omega
   subst e2
   rw[List.getD_eq_getElem?_getD,List.getElem?_append_right (Nat.le_refl _)]at hj
   simp only[Nat.sub_self,List.getElem?_cons_zero,Option.getD_some]at hj
   obtain⟨e,he,hbi,hj⟩:=Gv hj
   have hoo:oi'=o:=by
    rw[hl,hlen,List.getElem?_append_right (Nat.le_refl _)]at hoi
    simpa using hoi.symm
   rw[hoo]at hd
   have he':e∈o.after:=by simpa using he
   have hpe:=hd e he' hbi
   rcases hj with rfl|hj
   ·exact hpe
   ·have hlt:e.on<acc.length:=by
     have:=(Array.all_eq_true_iff_forall_mem.1 hb.1) e he'
     simp[hbi]at this;omega
    have hoe:∃oe,l[e.on]?=some oe:=by
     have:e.on<l.length:=by rw[hl];simp;omega
     exact⟨l[e.on],by simp[this]⟩
    obtain⟨oe,hoe⟩:=hoe
    exact h e.on hlt oe hoe (hc e.on oe hoe hpe) j hj
theorem ON{l:List Oper}{p:Nat->Bool}(hb:E' 0 l=true)(hc:FT l p){i:Nat}{o:Oper}(ho:l[i]?=some o)(hd:∀e∈o.after,Region.binds .any e=true->p e.on=true):∀j,(PY l i).testBit j=true->p j=true:=
 L1 hc l [] [] rfl rfl (fun i hi=>by simp at hi) hb i ((List.getElem?_eq_some_iff.1 ho).1) o ho hd
def G6(p:Nat->Bool)(i:Nat):Nat->Bool:=fun j=>if j=i then true else p j
section
variable {P : Program} {Q : Exit -> Act -> World -> Prop} {l : List Oper}
theorem Zc(hb:E' 0 l=true){J:(Nat->Bool)->Act->World->Prop}
  (step:∀p a w i o,l[i]?=some o->p i=false->FT l p->(∀j,(PY l i).testBit j=true->p j=true)->(∀j oj,l[j]?=some oj->p j=true->∀m,(PY l j).testBit m=true->p m=true)->J p a w->
   if Region.wanted o (yielded l.toArray a.tmps)then o.wp P a w (J (G6 p i)) Q else J (G6 p i) (a.put o.dst undef) w)
  (fin:∀p a w,(∀i,i<l.length->p i=true)->J p a w->Q .normal a w):
  ∀(fuel:Nat) (listed:Array Bool) (a:Act) (w:World),listed.size=l.length->FT l (fun i=>listed.getD i false)->AK (fun i=>listed.getD i false) l.length=fuel->
   J (fun i=>listed.getD i false) a w->wpAny P .any l.toArray Q fuel listed a w:=by
 have hback:=KM hb
 have allListed:∀(listed:Array Bool),listed.size=l.length->Region.ready .any l.toArray listed=[]->∀i,i<l.length->listed.getD i false=true:=by
  intro listed hsz hr i
  induction i using Nat.strongRecOn with
  |_ i ih=>
   intro hi
   cases hl:listed.getD i false with
   |true=>rfl
   |false=>
    exfalso
    have hmem:i∈Region.ready .any l.toArray listed:=mem_ready.2 ⟨getD_in (by rw[hsz];exact hi) hl,l[i],by simp[hi],fun e he hb=>by
     have:=hback i l[i] (by simp[hi]) e he hb
     exact ih e.on (by omega) (by omega)⟩
    rw[hr]at hmem;cases hmem
 intro fuel
 induction fuel with
 |zero=>
  intro listed a w hsz _ hcount hJ
  have hall:=Ox hcount
  have hr:Region.ready .any l.toArray listed=[]:=by
   cases hrr:Region.ready .any l.toArray listed with
   |nil=>rfl
   |cons i rs=>
    exfalso
    have hmem:i∈Region.ready .any l.toArray listed:=by rw[hrr];simp
    obtain⟨hun,oi,hoi,_⟩:=mem_ready.1 hmem
    have hlt:i<l.length:=by simpa using(Array.getElem?_eq_some_iff.1 hoi).1
    have h2:listed.getD i false=true:=hall i hlt
    rw[getD_both hun]at h2;cases h2
  exact⟨hr,fin _ a w hall hJ⟩
 |succ fuel ih=>
  intro listed a w hsz hcl hcount hJ
  refine⟨fun hr=>fin _ a w (allListed listed hsz hr) hJ,fun i hi=>?_⟩
  obtain⟨hun,o,hoi,hdeps⟩:=mem_ready.1 hi
  have hli:l[i]?=some o:=by simpa using hoi
  have hlt:i<l.length:=(List.getElem?_eq_some_iff.1 hli).1
  have hun':=getD_both hun
  have hsz':(listed.setIfInBounds i true).size=l.length:=by simp[hsz]
  have hgi:(listed.setIfInBounds i true).getD i false=true:=by simp[hsz,hlt]
  have hgo:∀j,j≠i->(listed.setIfInBounds i true).getD j false=listed.getD j false:=fun j hj=>getD_set_ne false (Ne.symm hj)
  have hcl':FT l (fun i_1=>(listed.setIfInBounds i true).getD i_1 false):=by
   intro j oj hj hl e he hb
   show(listed.setIfInBounds i true).getD e.on false=true
   have hl:(listed.setIfInBounds i true).getD j false=true:=hl
   by_cases hji:j=i
   ·subst hji
    have:oj=o:=Option.some.inj (hj.symm.trans hli)
    subst this
    exact getD_set_true (hdeps e he hb)
   ·rw[hgo j hji]at hl
    exact getD_set_true (hcl j oj hj hl e he hb)
  have hcount':AK (fun j=>(listed.setIfInBounds i true).getD j false) l.length=fuel:=by
   have:=Rn (p:=fun j=>listed.getD j false) (q:=fun j=>(listed.setIfInBounds i true).getD j false) hlt hun' hgi hgo
   omega
  have hup:G6 (fun j=>listed.getD j false) i=fun j=>(listed.setIfInBounds i true).getD j false:=by
   funext j
   unfold G6
   by_cases e:j=i
   ·subst e;rw[if_pos rfl];exact hgi.symm
   ·rw[if_neg e];exact(hgo j e).symm
  have hst:=step (fun j=>listed.getD j false) a w i o hli hun' hcl (ON hb hcl hli hdeps) (fun j oj hj hp=>ON hb hcl hj (hcl j oj hj hp)) hJ
  rw[hup]at hst
  refine wpOp_mono (fun a' w' hJ'=>ih _ a' w' hsz' hcl' hcount' hJ') ?_
  unfold wpOp
  simp only[hoi]
  split
  ·rename_i hw;rw[if_pos hw]at hst;exact .inl hst
  ·rename_i hw;rw[if_neg hw]at hst;exact hst
theorem JC{id:Nat}(hm:P.follows .mixedOrders=true)(hb:E' 0 l=true){J:(Nat->Bool)->Act->World->Prop}
  (step:∀p a w i o,l[i]?=some o->p i=false->FT l p->(∀j,(PY l i).testBit j=true->p j=true)->(∀j oj,l[j]?=some oj->p j=true->∀m,(PY l j).testBit m=true->p m=true)->J p a w->
   if Region.wanted o (yielded l.toArray a.tmps)then o.wp P a w (J (G6 p i)) Q else J (G6 p i) (a.put o.dst undef) w)
  (fin:∀p a w,(∀i,i<l.length->p i=true)->J p a w->Q .normal a w) {a:Act} {w:World} (h:J (fun _=>false) a {w with drawn:=w.drawn+1}):
  (Code.region id l.toArray true).wp P Q a w:=by
 refine wp_region_any hm ?_
 have hf:(fun i=>(Array.replicate l.length false).getD i false)=fun _=>false:=funext fun i=>getD_replicate_false _ _
 have:=
     Zc hb step fin l.length (Array.replicate l.length false) a {w with drawn:=w.drawn+1} (by simp) (fun j o _ hj=>by rw[hf]at hj;cases hj)
  (by
   rw[hf]
   have:∀m,AK (fun _=>false) m=m:=by
    intro m
    induction m with
    |zero=>rfl
    |succ m ih=>
     have hu:AK (fun _=>false) (m+1)=AK (fun _=>false) m+1:=rfl
     rw[hu,ih]
   exact this _)
  (by rw[hf];exact h)
 simpa using this
end
end Go.GK
namespace Go.GK
abbrev Rec:=Nat->Value
def rR(ρ:Rec)(i:Nat)(v:Value):Rec:=fun j=>match Nat.beq j i with
 |true=>v
 |false=>ρ j
def Bw(l:List Nat)(r:Nat):Bool:=l.any (Nat.beq r)
theorem AB{l:List Nat}{r:Nat} :Bw l r=true↔r∈l:=by
 unfold Bw
 rw[List.any_eq_true]
 constructor
 ·rintro⟨x,h,e⟩;have:=Nat.eq_of_beq_eq_true e;subst this;exact h
 ·intro h;exact⟨r,h,by simp⟩
theorem Nl(ρ:Rec)(i:Nat)(v:Value):rR ρ i v i=v:=by simp[rR]
end Go.GK
namespace Go.GK
def word(p:Nat->Bool)(i:Nat):BitVec 64:=(BitVec.ofBoolListLE ((List.range 64).map fun j=>p (64*i+j))).cast (by simp)
theorem Fk(p:Nat->Bool)(i j:Nat):(word p i).getLsbD j=(decide (j<64)&&p (64*i+j)):=by
 simp only[word,BitVec.getLsbD_cast,BitVec.getLsbD_ofBoolListLE]
 by_cases h:j<64
 ·simp[h]
 ·simp[h]
def KL(p:Nat->Bool):Array Value:= #[Iv (word p 0),Iv (word p 1),Iv (word p 2),Iv (word p 3)]
def bs(p:Nat->Bool):Value:= .agg (KL p)
theorem RF(p:Nat->Bool)(i:Nat)(h:i<4):(KL p)[i]?=some (Iv (word p i)):=by
 unfold KL
 match i,h with
 |0,_=>rfl
 |1,_=>rfl
 |2,_=>rfl
 |3,_=>rfl
theorem S8{p q:Nat->Bool}(h:∀x,x<256->p x=q x):KL p=KL q:=by
 have e:∀i,i<4->word p i=word q i:=fun i hi=>by
  apply BitVec.eq_of_getLsbD_eq
  intro j hj
  rw[Fk,Fk,h _ (by omega)]
 unfold KL
 rw[e 0 (by omega),e 1 (by omega),e 2 (by omega),e 3 (by omega)]
theorem W9{a b:BitVec 64}(h:Iv a=Iv b):a=b:=by
 simp only[Iv,Value.int.injEq,true_and]at h
 exact BitVec.eq_of_toNat_eq (by omega)
theorem Y9{p q:Nat->Bool}(h:KL p=KL q):∀x,x<256->p x=q x:=by
 intro x hx
 have h1:=RF p (x/64) (by omega)
 rw[h,RF q (x/64) (by omega)]at h1
 have h2:=W9 (Option.some.inj h1)
 have h3:=Fk p (x/64) (x %64)
 rw[<-h2,Fk]at h3
 have h4:x %64<64:=Nat.mod_lt _ (by decide)
 simp only[h4,decide_true,Bool.true_and]at h3
 rw[show 64*(x/64)+x %64=x by omega]at h3
 exact h3.symm
theorem S5{p q:Nat->Bool} :bs p=bs q↔∀x,x<256->p x=q x:=
 ⟨fun h=>Y9 (by unfold bs at h;injection h),fun h=>by unfold bs;rw[S8 h]⟩
theorem Y4(p:Nat->Bool):∀u∈KL p,u.oneCell'=true:=by
 intro u hu;simp[KL]at hu;rcases hu with rfl|rfl|rfl|rfl<;>rfl
attribute [irreducible] word
end Go.GK
namespace Go.GK
section
variable {P : Program}
theorem Ez{d:Nat}{e:TypeId}{k:IntKind}(he:P.underlying e=some (.int k))(h1:P.cellsOf e=1)(w:World)(xs ys:List Int):∀(is:List Nat),(∀i∈is,i<xs.length/\i<ys.length)->
  (Op.eqItems (d+1) e (P.cellsOf e) (xs.map (Value.int k)).toArray (ys.map (Value.int k)).toArray is).run P w= .ok (is.all fun i=>xs[i]?==ys[i]?) w
 | [],_=>by simp[Op.eqItems]
 |i::is,h=>by
  have hi:=h i (by simp)
  have ih:=Ez (d:=d) he h1 w xs ys is (fun j hj=>h j (by simp[hj]))
  have p1:(part e (xs.map (Value.int k)).toArray (i*P.cellsOf e)).run P w= .ok (.int k xs[i]) w:=by
   simp[part,BE he,C5,h1,hi.1]
  have p2:(part e (ys.map (Value.int k)).toArray (i*P.cellsOf e)).run P w= .ok (.int k ys[i]) w:=by
   simp[part,BE he,C5,h1,hi.2]
  have p3:(Op.equalIn (d+1) e (.int k xs[i]) (.int k ys[i])).run P w= .ok (xs[i]==ys[i]) w:=by simp[Op.equalIn,AG he]
  simp only[Op.eqItems,Sem.run_bind,p1,p2,p3,Result.andThen_ok]
  by_cases e1:xs[i]=ys[i]
  ·simp only[e1,beq_self_eq_true,Bool.not_true,Bool.false_eq_true,if_false,ih,List.all_cons]
   simp[hi.1,hi.2,e1]
  ·simp[hi.1,hi.2,e1]
theorem Lm{t e:TypeId}{n:Nat}{k:IntKind}{bytes:Nat}{z:Value}(ht:P.underlying t=some (.array n e))(he:P.underlying e=some (.int k))(hz:TI P e 1 bytes z)(w:World)(xs ys:List Int)(hx:xs.length=n)(hy:ys.length=n):
  (Op.equal t (.agg (xs.map (Value.int k)).toArray) (.agg (ys.map (Value.int k)).toArray)).run P w= .ok (decide (xs=ys)) w:=by
 obtain⟨i,hi,hs,_⟩:=hz.ex
 have h1:P.cellsOf e=1:=by simp[Program.cellsOf,hi,hs]
 have key:∀d,(Op.equalIn (d+1+1) t (.agg (xs.map (Value.int k)).toArray) (.agg (ys.map (Value.int k)).toArray)).run P w= .ok (decide (xs=ys)) w:=fun d=>by
  rw[run_equalIn_array w (d+1) _ _ ht hi,Ez he h1 w xs ys _ (fun i hi=>by have:=List.mem_range.1 hi;omega)]
  congr 1
  rw[Bool.eq_iff_iff]
  simp only[List.all_eq_true,List.mem_range,beq_iff_eq,decide_eq_true_iff]
  constructor
  ·intro h
   apply List.ext_getElem?
   intro j
   by_cases hj:j<n
   ·exact h j hj
   ·rw[List.getElem?_eq_none (by omega),List.getElem?_eq_none (by omega)]
  ·intro h j _;rw[h]
 unfold Op.equal Op.maxDepth
 exact key 9998
end
section
variable {P : Program} {T : TypeId} {E : Operand -> Option Value} {H : Hp} {O : List Ao} {x y : Operand} {Tx Ty e : TypeId} {k : IntKind} {n bytes : Nat} {z : Value}
theorem Am.dv{xs ys:List Int}(hg:P.eqGuardType P.depth Tx=false)(ht:P.underlying Tx=some (.array n e))(he:P.underlying e=some (.int k))(hz:TI P e 1 bytes z)(hx:E x=some (.agg (xs.map (Value.int k)).toArray))(hy:E y=some (.agg (ys.map (Value.int k)).toArray))(h1:xs.length=n)(h2:ys.length=n):
  Am P (.binOp .eql Tx x y Ty) T E H O (.bool (decide (xs=ys))):= .Aj fun a w o ho _ he' _=>by
 have h3:=Lm ht he hz w xs ys h1 h2
 have h4:=run_eqGuard_agg w .eql Tx x y (xs.map (Value.int k)).toArray (ys.map (Value.int k)).toArray hg
 have h5:(binOp .eql Tx (.agg (xs.map (Value.int k)).toArray) (.agg (ys.map (Value.int k)).toArray)).run P w= .ok (.bool (decide (xs=ys))) w:=by
  show(do pure (.bool (<-Op.equal Tx _ _)):Sem Value).run P w=_
  simp[h3]
 simp only[execOp,ho,Sem.run_bind,he' x _ hx,he' y _ hy,h4,Result.andThen_ok,h5,Sem.run_pure]
theorem Am.dn{xs ys:List Int}(hg:P.eqGuardType P.depth Tx=false)(ht:P.underlying Tx=some (.array n e))(he:P.underlying e=some (.int k))(hz:TI P e 1 bytes z)(hx:E x=some (.agg (xs.map (Value.int k)).toArray))(hy:E y=some (.agg (ys.map (Value.int k)).toArray))(h1:xs.length=n)(h2:ys.length=n):
  Am P (.binOp .neq Tx x y Ty) T E H O (.bool (!decide (xs=ys))):= .Aj fun a w o ho _ he' _=>by
 have h3:=Lm ht he hz w xs ys h1 h2
 have h4:=run_eqGuard_agg w .neq Tx x y (xs.map (Value.int k)).toArray (ys.map (Value.int k)).toArray hg
 have h5:(binOp .neq Tx (.agg (xs.map (Value.int k)).toArray) (.agg (ys.map (Value.int k)).toArray)).run P w= .ok (.bool (!decide (xs=ys))) w:=by
  show(do pure (.bool (!(<-Op.equal Tx _ _))):Sem Value).run P w=_
  simp[h3]
 simp only[execOp,ho,Sem.run_bind,he' x _ hx,he' y _ hy,h4,Result.andThen_ok,h5,Sem.run_pure]
def W3(p q:Nat->Bool):Bool:=(List.range 256).all fun x=>p x==q x
theorem Yz{p q:Nat->Bool} :W3 p q=true↔∀x,x<256->p x=q x:=by simp[W3,List.all_eq_true]
theorem ir{p q:Nat->Bool} :W3 p q=true↔bs p=bs q:=by rw[Yz,S5]
def IY(p:Nat->Bool):List Int:=[((word p 0).toNat:Int),((word p 1).toNat:Int),((word p 2).toNat:Int),((word p 3).toNat:Int)]
theorem OI{p q:Nat->Bool} :decide (IY p=IY q)=W3 p q:=by
 rw[Bool.eq_iff_iff,decide_eq_true_iff,ir]
 have:∀p,bs p= .agg ((IY p).map (Value.int .u64)).toArray:=fun p=>rfl
 rw[this,this]
 constructor
 ·intro h;rw[h]
 ·intro h
  have h':=congrArg (fun v:Value=>match v with| .agg a=>a.toList|_=>[]) h
  simpa [IY]using h'
theorem Am.uP{p q:Nat->Bool}(hg:P.eqGuardType P.depth Tx=false)(ht:P.underlying Tx=some (.array 4 e))(he:P.underlying e=some (.int .u64))(hz:TI P e 1 bytes z)(hx:E x=some (.agg (KL p)))(hy:E y=some (.agg (KL q))):
  Am P (.binOp .eql Tx x y Ty) T E H O (.bool (W3 p q)):=by
 have:=Am.dv (P:=P) (T:=T) (H:=H) (O:=O) (Ty:=Ty) (xs:=IY p) (ys:=IY q) hg ht he hz hx hy rfl rfl
 rwa [OI]at this
theorem Am.ux{p q:Nat->Bool}(hg:P.eqGuardType P.depth Tx=false)(ht:P.underlying Tx=some (.array 4 e))(he:P.underlying e=some (.int .u64))(hz:TI P e 1 bytes z)(hx:E x=some (.agg (KL p)))(hy:E y=some (.agg (KL q))):
  Am P (.binOp .neq Tx x y Ty) T E H O (.bool (!W3 p q)):=by
 have:=Am.dn (P:=P) (T:=T) (H:=H) (O:=O) (Ty:=Ty) (xs:=IY p) (ys:=IY q) hg ht he hz hx hy rfl rfl
 rwa [OI]at this
end
end Go.GK
namespace Go.GK
def idx{α:Type}(l:List α)(i:Int):Option α:=if 0<=i then l[i.toNat]? else none
def Ah{α:Type}(p:Prop) [Decidable p](k:Option α):Option α:=if p then k else none
def Ac{α β:Type}(x:Option α)(k:α->Option β):Option β:=match x with
 |some a=>k a
 |none=>none
def Ad{X R:Type} :Nat->(X->(X->Option R)->Option R)->X->Option R
 |0,_,_=>none
 |n+1,b,x=>b x (Ad n b)
section
variable {α β X R : Type}
theorem AF{p:Prop} [Decidable p]{k:Option α}{r:α}(h:Ah p k=some r):p/\k=some r:=by
 unfold Ah at h;split at h
 ·exact⟨‹p›,h⟩
 ·cases h
theorem A9{x:Option α}{k:α->Option β}{r:β}(h:Ac x k=some r):∃a,x=some a/\k a=some r:=by
 cases x with
 |none=>cases h
 |some a=>exact⟨a,rfl,h⟩
theorem Pv{n:Nat}{b:X->(X->Option R)->Option R}{x:X}{r:R}(h:Ad n b x=some r):∃m,n=m+1/\b x (Ad m b)=some r:=by
 cases n with
 |zero=>cases h
 |succ m=>exact⟨m,rfl,h⟩
theorem FB{l:List α}{i:Int}{x:α}(h:idx l i=some x):(0<=i/\i<(l.length:Nat))/\l[i.toNat]?=some x:=by
 unfold idx at h
 split at h
 ·have:=(List.getElem?_eq_some_iff.1 h).1
  exact⟨⟨by assumption,by omega⟩,h⟩
 ·cases h
theorem Vf{l:List α}{i:Int}{x:α}(h:idx l i=some x):0<=i/\i<(l.length:Nat):=(FB h).1
end
structure Cd(α:Type)where
 sz:Nat
 Bm:Hp->α->List Value->Prop
 len:∀ {H a cs},Bm H a cs->cs.length=sz
 mono:∀ {H H' a cs},H.le H'->Bm H a cs->Bm H' a cs
 one:∀ {H a cs},Bm H a cs->∀u∈cs,u.oneCell'=true
def AM{α:Type}(c:Cd α)(H:Hp):List α->List Value->Prop
 | [],xs=>xs=[]
 |a::l,xs=> ∃cs ys,xs=cs++ys/\c.Bm H a cs/\AM c H l ys
structure Fa{α:Type}(c:Cd α)(H:Hp)(l:List α)(v:Value):Prop where
 ex:∃xs,Sl H v c.sz l.length xs/\AM c H l xs
 le:l.length<=9223372036854775807
def iU:Cd Int where
 sz:=1
 Bm _ n cs:=cs=[.int .i64 n]
 len h:=by subst h;rfl
 mono _ h:=h
 one h:=by subst h;intro u hu;simp at hu;subst hu;rfl
def u4:Cd Int where
 sz:=1
 Bm _ n cs:=cs=[.int .u8 n]/\0<=n/\n<=255
 len h:=by rw[h.1];rfl
 mono _ h:=h
 one h:=by rw[h.1];intro u hu;simp at hu;subst hu;rfl
def cB:Cd Bool where
 sz:=1
 Bm _ b cs:=cs=[.bool b]
 len h:=by subst h;rfl
 mono _ h:=h
 one h:=by subst h;intro u hu;simp at hu;subst hu;rfl
abbrev Ax:=List UInt8
def sv(s:Ax):Value:= .string ⟨⟨s⟩⟩
def cS:Cd Ax where
 sz:=1
 Bm _ s cs:=cs=[sv s]
 len h:=by subst h;rfl
 mono _ h:=h
 one h:=by subst h;intro u hu;simp at hu;subst hu;rfl
abbrev rn:=Nat->Bool
def cBs:Cd rn where
 sz:=4
 Bm _ p cs:=cs=(KL p).toList
 len h:=by subst h;rfl
 mono _ h:=h
 one h:=by subst h;intro u hu;exact Y4 _ u (by simpa using hu)
def cP{α β:Type}(c:Cd α)(d:Cd β):Cd (α×β)where
 sz:=c.sz+d.sz
 Bm H a cs:= ∃c1 c2,cs=c1++c2/\c.Bm H a.1 c1/\d.Bm H a.2 c2
 len h:=by obtain⟨c1,c2,rfl,h1,h2⟩:=h;simp[c.len h1,d.len h2]
 mono hl h:=by obtain⟨c1,c2,rfl,h1,h2⟩:=h;exact⟨c1,c2,rfl,c.mono hl h1,d.mono hl h2⟩
 one h:=by
  obtain⟨c1,c2,rfl,h1,h2⟩:=h
  intro u hu;rcases List.mem_append.1 hu with hu|hu
  ·exact c.one h1 u hu
  ·exact d.one h2 u hu
section
variable {α : Type} {c : Cd α} {H H' : Hp}
theorem AM.len:∀ {l:List α} {xs:List Value},AM c H l xs->xs.length=l.length*c.sz
 | [],xs,h=>by simp only[AM]at h;subst h;simp
 |a::l,xs,⟨cs,ys,e,h1,h2⟩=>by subst e;simp[c.len h1,AM.len h2,Nat.add_mul,Nat.add_comm]
theorem AM.mono(hl:H.le H'):∀ {l:List α} {xs:List Value},AM c H l xs->AM c H' l xs
 | [],_,h=>h
 |_::_,_,⟨cs,ys,e,h1,h2⟩=>⟨cs,ys,e,c.mono hl h1,AM.mono hl h2⟩
theorem AM.one:∀ {l:List α} {xs:List Value},AM c H l xs->∀u∈xs,u.oneCell'=true
 | [],xs,h,u,hu=>by simp only[AM]at h;subst h;cases hu
 |_::_,_,⟨cs,ys,e,h1,h2⟩,u,hu=>by
  subst e
  rcases List.mem_append.1 hu with hu|hu
  ·exact c.one h1 u hu
  ·exact AM.one h2 u hu
theorem AM.app:∀ {l l':List α} {xs xs':List Value},AM c H l xs->AM c H l' xs'->AM c H (l++l') (xs++xs')
 | [],_,xs,_,h,h'=>by simp only[AM]at h;subst h;simpa using h'
 |_::_,_,_,_,⟨cs,ys,e,h1,h2⟩,h'=>by subst e;exact⟨cs,_,by rw[List.append_assoc],h1,AM.app h2 h'⟩
theorem AM.get:∀ {l:List α} {xs:List Value} {i:Nat} {x:α},AM c H l xs->l[i]?=some x->∃cs,c.Bm H x cs/\(∀j u,cs[j]?=some u->xs[i*c.sz+j]?=some u)/\cs=(xs.drop (i*c.sz)).take c.sz
 | [],_,_,_,_,h=>by simp at h
 |a::l,_,0,x,⟨cs,ys,e,h1,h2⟩,h=>by
  simp at h;subst h;subst e
  refine⟨cs,h1,fun j u hj=>?_,?_⟩
  ·have:=(List.getElem?_eq_some_iff.1 hj).1
   rw[Nat.zero_mul,Nat.zero_add,List.getElem?_append_left this];exact hj
  ·rw[Nat.zero_mul,List.drop_zero,List.take_append_of_le_length (by rw[c.len h1];exact Nat.le_refl _),List.take_of_length_le (by rw[c.len h1];exact Nat.le_refl _)]
 |a::l,_,i+1,x,⟨cs,ys,e,h1,h2⟩,h=>by
  subst e
  obtain⟨cs',g1,g2,g3⟩:=AM.get h2 (by simpa using h)
  have e:(i+1)*c.sz=cs.length+i*c.sz:=by rw[c.len h1,Nat.add_mul];omega
  refine⟨cs',g1,fun j u hj=>?_,?_⟩
  ·rw[e,Nat.add_assoc,List.getElem?_append_right (by omega),Nat.add_sub_cancel_left];exact g2 j u hj
  ·rw[e,List.drop_append,List.drop_of_length_le (by omega),Nat.add_sub_cancel_left,List.nil_append];exact g3
theorem AM.set:∀ {l:List α} {xs:List Value} {i:Nat} {y:α} {vs:List Value},AM c H l xs->i<l.length->c.Bm H y vs->AM c H (l.set i y) (BZ xs (i*c.sz) vs)
 | [],_,_,_,_,_,h,_=>by simp at h
 |a::l,_,0,y,vs,⟨cs,ys,e,h1,h2⟩,_,hy=>by
  subst e
  refine⟨vs,ys,?_,hy,h2⟩
  unfold BZ
  rw[Nat.zero_mul,List.take_zero,List.nil_append,Nat.zero_add,List.drop_append,List.drop_of_length_le (by rw[c.len h1,c.len hy];exact Nat.le_refl _),c.len h1,c.len hy];simp
 |a::l,_,i+1,y,vs,⟨cs,ys,e,h1,h2⟩,hi,hy=>by
  subst e
  refine⟨cs,BZ ys (i*c.sz) vs,?_,h1,AM.set h2 (by simpa using hi) hy⟩
  have e:(i+1)*c.sz=cs.length+i*c.sz:=by rw[c.len h1,Nat.add_mul];omega
  unfold BZ
  rw[e,List.take_append,List.take_of_length_le (by omega),Nat.add_sub_cancel_left,Nat.add_assoc,List.drop_append,List.drop_of_length_le (by omega:cs.length<=cs.length+(i*c.sz+vs.length)),Nat.add_sub_cancel_left]
  simp
theorem Xf(xs:List Value)(k off s:Nat)(cs vs:List Value)(hcs:cs=(xs.drop k).take s)(hlen:cs.length=s)(hk:off+vs.length<=s):BZ xs (k+off) vs=BZ xs k (BZ cs off vs):=by
 subst hcs
 have hl:s<=(xs.drop k).length:=by rw[List.length_take]at hlen;omega
 have h3:(BZ ((xs.drop k).take s) off vs).length=s:=by rw[GI _ _ _ (by rw[hlen];exact hk)];exact hlen
 unfold BZ at*
 rw[h3]
 have a1:xs.take (k+off)=xs.take k++(xs.drop k).take off:=by rw[List.take_add]
 have a2:((xs.drop k).take s).take off=(xs.drop k).take off:=by rw[List.take_take,Nat.min_eq_left (by omega)]
 have a3:xs.drop (k+off+vs.length)=((xs.drop k).take s).drop (off+vs.length)++xs.drop (k+s):=by
  have:xs.drop (k+off+vs.length)=(xs.drop k).drop (off+vs.length):=by rw[List.drop_drop];congr 1;omega
  rw[this]
  have e:xs.drop k=(xs.drop k).take s++xs.drop (k+s):=by
   have:=(List.take_append_drop s (xs.drop k)).symm
   rw[List.drop_drop]at this;exact this
  conv=>lhs;rw[e]
  rw[List.drop_append,hlen]
  have:off+vs.length-s=0:=by omega
  rw[this,List.drop_zero]
 rw[a1,a2,a3]
 simp
theorem AM.part{l:List α}{xs:List Value}{i off:Nat}{x y:α}{cs vs:List Value}(h:AM c H l xs)(hx:l[i]?=some x)(hcs:cs=(xs.drop (i*c.sz)).take c.sz)(hlen:cs.length=c.sz)(hk:off+vs.length<=c.sz)(hy:c.Bm H y (BZ cs off vs)):
  AM c H (l.set i y) (BZ xs (i*c.sz+off) vs):=by
 rw[Xf xs _ off c.sz cs vs hcs hlen hk]
 exact h.set (List.getElem?_eq_some_iff.1 hx).1 hy
theorem AM.take:∀ {l:List α} {xs:List Value} (m:Nat),AM c H l xs->AM c H (l.take m) (xs.take (m*c.sz))
 | [],xs,m,h=>by simp only[AM]at h;subst h;simp[AM]
 |a::l,xs,0,h=>by simp[AM]
 |a::l,_,m+1,⟨cs,ys,e,h1,h2⟩=>by
  subst e
  refine⟨cs,ys.take (m*c.sz),?_,h1,AM.take m h2⟩
  rw[show(m+1)*c.sz=cs.length+m*c.sz by rw[c.len h1,Nat.add_mul];omega,List.take_append,List.take_of_length_le (by omega),Nat.add_sub_cancel_left]
theorem AM.rep{z:α}{zs:Array Value}(hz:c.Bm H z zs.toList)(h0:0<c.sz):∀m,AM c H (List.replicate m z) (madeCells zs (m*c.sz)).toList:=by
 have hs:zs.size=c.sz:=by rw[<-c.len hz];simp
 have key:∀m,(madeCells zs (m*c.sz)).toList=(List.replicate m zs.toList).flatten:=by
  intro m
  apply List.ext_getElem
  ·simp[madeCells,List.length_flatten,hs]
  ·intro i h1 h2
   simp only[madeCells,Array.toList_map,Array.toList_range,List.getElem_map,List.getElem_range]
   have hi:i<m*c.sz:=by simpa [madeCells]using h1
   have:∀m i (h:i<m*c.sz) (h2:i<(List.replicate m zs.toList).flatten.length),(List.replicate m zs.toList).flatten[i]=zs[i %zs.size]! :=by
    intro m
    induction m with
    |zero=>intro i h;simp at h
    |succ m ih=>
     intro i h h2
     simp only[List.replicate_succ,List.flatten_cons]
     by_cases hlt:i<zs.size
     ·rw[List.getElem_append_left (by simpa using hlt),Nat.mod_eq_of_lt hlt]
      simp[hlt]
     ·rw[List.getElem_append_right (by simpa using hlt)]
      have h3:i-zs.toList.length<m*c.sz:=by simp[hs];rw[Nat.add_mul]at h;omega
      rw[ih _ h3]
      have h4:(i-zs.toList.length) %zs.size=i %zs.size:=by
       have:zs.size<=i:=by omega
       simp only[Array.length_toList]
       conv=>rhs;rw[<-Nat.sub_add_cancel this,Nat.add_mod_right]
      rw[h4]
   exact(this m i hi h2).symm
 intro m
 rw[key]
 induction m with
 |zero=>exact rfl
 |succ m ih=>exact⟨zs.toList,(List.replicate m zs.toList).flatten,by simp[List.replicate_succ],hz,ih⟩
theorem Fa.mono{l:List α}{v:Value}(hl:H.le H')(h:Fa c H l v):Fa c H' l v:=by
 obtain⟨⟨xs,h1,h2⟩,h3⟩:=h
 exact⟨⟨xs,h1.mono hl,h2.mono hl⟩,h3⟩
theorem Fa.sl{l:List α}{v:Value}(h:Fa c H l v):OP v l.length:=by
 obtain⟨⟨xs,h1,h2⟩,h3⟩:=h
 exact h1.sl
theorem Fa.one{l:List α}{v:Value}(h:Fa c H l v):v.oneCell'=true:=by
 rcases h.sl with⟨rfl,_⟩|⟨a,cap,rfl,_⟩<;>rfl
theorem Fa.nil:Fa c H [] (.slice none 0 0):=⟨⟨[],Sl.nil H _,rfl⟩,by simp⟩
theorem Fa.get{l:List α}{v:Value}{i:Int}{x:α}(h:Fa c H l v)(hi:idx l i=some x):∃cs,c.Bm H x cs/\∀j u,cs[j]?=some u->C8 H (AE v (i.toNat*c.sz+j)) u:=by
 obtain⟨⟨xs,h1,h2⟩,h3⟩:=h
 obtain⟨cs,g1,g2,_⟩:=h2.get (FB hi).2
 exact⟨cs,g1,fun j u hj=>h1.cells _ u (g2 j u hj)⟩
theorem Fa.of{l:List α}{v:Value}{n:Nat}{xs:List Value}(h:Sl H v c.sz n xs)(hn:n=l.length)(hx:AM c H l xs)(hle:l.length<=9223372036854775807):Fa c H l v:=by
 subst hn;exact⟨⟨xs,h,hx⟩,hle⟩
end
def cL{α:Type}(c:Cd α):Cd (List α)where
 sz:=1
 Bm H l cs:= ∃v,cs=[v]/\Fa c H l v
 len h:=by obtain⟨v,rfl,_⟩:=h;rfl
 mono hl h:=by obtain⟨v,e,h⟩:=h;exact⟨v,e,h.mono hl⟩
 one h:=by obtain⟨v,rfl,h⟩:=h;intro u hu;simp at hu;subst hu;exact h.one
def cA{α:Type}(n:Nat)(c:Cd α):Cd (List α)where
 sz:=n*c.sz
 Bm H l cs:=l.length=n/\AM c H l cs
 len h:=by rw[h.2.len,h.1]
 mono hl h:=⟨h.1,h.2.mono hl⟩
 one h:=h.2.one
section
variable {P : Program} {T : TypeId} {E : Operand -> Option Value} {H : Hp} {O : List Ao} {x : Operand} {t : TypeId} {d : TypeDesc}
theorem Am.ldH{p u:Value}(ht:P.underlying t=some d)(hd:C5 d=false)(hx:E x=some p)(hc:C8 H p u):Am P (.load t x) T E H O u:= .Aj fun ac w o ho _ he hs=>by
 obtain⟨a,h1,h2⟩:=hc.cell hs
 rw[h1]at hx
 simp[execOp,ho,he x _ hx,Instr.loadAt,Instr.sureAddr,BT ht hd h2]
theorem Am.uD{v:Value}{k bytes:Nat}{z:Value}{vs:List Value}(ht:P.underlying t=some d)(hd:C5 d=true)(hsz:TI P t vs.length bytes z)(h0:vs.isEmpty=false)(hx:E x=some (AE v k))(hc:∀j u,vs[j]?=some u->C8 H (AE v (k+j)) u):
  Am P (.load t x) T E H O (.agg vs.toArray):= .Aj fun ac w o ho _ he hs=>by
 obtain⟨a,h1,h2⟩:=jD.cells hs (v:=v) (k:=k) (by intro e;subst e;simp at h0) hc
 rw[h1]at hx
 simp[execOp,ho,he x _ hx,Instr.loadAt,Instr.sureAddr,BU (w:=w) ht hd hsz h2]
end
section
variable {P : Program} {Q : Exit -> Act -> World -> Prop} {n : Nat} {L L' : List (Nat × Value)} {H : Hp} {O : List Ao}
def NN(ks:List Nat)(k:Nat)(O:List Ao):List Ao:=ks.filterMap (O[·]?)++O.drop k
def BF:List Nat->Bool
 | []=>true
 |k::ks=> !Bw ks k&&BF ks
theorem IE:∀ {ks:List Nat},BF ks=true->∀(i j a:Nat),ks[i]?=some a->ks[j]?=some a->i=j
 | [],_,i,_,a,h,_=>by simp at h
 |k::ks,hn,i,j,a,hi,hj=>by
  simp only[BF,Bool.and_eq_true,Bool.not_eq_true']at hn
  have hk:∀q,ks[q]?=some k->False:=fun q hq=>by
   have:=AB.2 (List.mem_of_getElem? hq)
   rw[hn.1]at this;cases this
  cases i with
  |zero=>
   cases j with
   |zero=>rfl
   |succ j=>simp at hi hj;subst hi;exact(hk j hj).elim
  |succ i=>
   cases j with
   |zero=>simp at hi hj;subst hj;exact(hk i hi).elim
   |succ j=>rw[IE hn.2 i j a (by simpa using hi) (by simpa using hj)]
theorem SH.NN{w:World}(ks:List Nat)(k:Nat)(hk:(ks.all fun q=>Nat.blt q k)=true)(hn:BF ks=true)(hl:k<=O.length)(h:SH w H O):SH w H (NN ks k O):=by
 have hlt:∀q∈ks,q<O.length:=fun q hq=>by have:=List.all_eq_true.1 hk q hq;simp at this;omega
 have hlt2:∀q∈ks,q<k:=fun q hq=>by have:=List.all_eq_true.1 hk q hq;simpa using this
 have hfm:∀ks:List Nat,(∀q∈ks,q<O.length)->ks.filterMap (O[·]?)=ks.map (fun q=>O.getD q .emp):=by
  intro ks
  induction ks with
  |nil=>intro _;rfl
  |cons q ks ih=>
   intro h
   have hq:=h q (by simp)
   rw[List.filterMap_cons,List.getElem?_eq_getElem hq,List.map_cons,ih fun q' h'=>h q' (by simp[h'])]
   simp[hq]
 have hf:=hfm ks hlt
 refine h.pick (fun i=>if i<ks.length then ks.getD i 0 else k+(i-ks.length)) (fun i r hr=>?_) (fun i j hi hj he=>?_)
 ·unfold GK.NN at hr
  rw[hf]at hr
  by_cases hi:i<ks.length
  ·rw[List.getElem?_append_left (by simpa using hi)]at hr
   have hq:ks[i]<O.length:=hlt _ (List.getElem_mem hi)
   simp only[List.getElem?_map,List.getElem?_eq_getElem hi,Option.map_some]at hr
   simp only[hi,if_true,List.getD_eq_getElem?_getD,List.getElem?_eq_getElem hi,Option.getD_some]
   rw[List.getD_eq_getElem?_getD,List.getElem?_eq_getElem hq]at hr
   rw[List.getElem?_eq_getElem hq];exact hr
  ·rw[List.getElem?_append_right (by simpa using hi)]at hr
   simp only[hi,if_false]
   simpa using hr
 ·by_cases h1:i<ks.length<;>by_cases h2:j<ks.length
  ·rw[if_pos h1,if_pos h2]at he
   refine IE hn i j ks[i] (by simp[h1]) ?_
   simp only[List.getD_eq_getElem?_getD,List.getElem?_eq_getElem h1,List.getElem?_eq_getElem h2,Option.getD_some]at he
   rw[List.getElem?_eq_getElem h2,he]
  ·rw[if_pos h1,if_neg h2]at he
   have:=hlt2 _ (List.getElem_mem h1)
   simp only[List.getD_eq_getElem?_getD,List.getElem?_eq_getElem h1,Option.getD_some]at he
   omega
  ·rw[if_neg h1,if_pos h2]at he
   have:=hlt2 _ (List.getElem_mem h2)
   simp only[List.getD_eq_getElem?_getD,List.getElem?_eq_getElem h2,Option.getD_some]at he
   omega
  ·rw[if_neg h1,if_neg h2]at he
   omega
theorem SH.JW{w:World}(hs:SH w H O){i size m:Nat}{v:Value}{e:TypeId}{xs:List Value}(hi:O[i]?=some (.row v e size m xs)):m<=9223372036854775807:=by
 have h:=hs.ok i _ hi
 simp only[Ao.ok]at h
 rcases h.2 with⟨rfl,rfl⟩|⟨g,cap,cur,rfl,_,_,h1,h2,_⟩
 ·omega
 ·simp only[maxLen]at h2;omega
end
end Go.GK
namespace Go.GK
abbrev C6(n:Int):Prop:= -9223372036854775808<=n/\n<=9223372036854775807
abbrev F8(n:Int):Prop:=0<=n/\n<=255
abbrev Ak:Nat:=1099511627776
section
variable {P : Program} {T : TypeId} {E : Operand -> Option Value} {H : Hp} {O : List Ao} {x y : Operand}
theorem Am.nilCheck{b off:Nat}(hx:E x=some (ptr b off)):Am P (.nilCheck x) T E H O (ptr b off):= .Aj fun a w o ho _ he _=>by
 simp only[ptr]at hx
 simp[execOp,ho,he x _ hx,ptr]
theorem Am.uC{t:TypeId}{s:Ax}(ht:P.underlying t=some .string)(hx:E x=some (sv s)):Am P (.call {callee:= .builtin .len,args:= #[x],argTypes:= #[t]}) T E H O (.int .i64 ((s.length:Nat):Int)):=by
 have:=Am.gr (P:=P) (T:=T) (H:=H) (O:=O) ht hx
 exact this
def EE(s:Ax)(i:Int):Option Int:=if 0<=i then(s[i.toNat]?).map (fun b=>(b.toNat:Int))else none
theorem Yg{s:Ax}{i x:Int}(h:EE s i=some x):(0<=i/\i<(s.length:Nat))/\0<=x/\x<=255:=by
 unfold EE at h
 split at h
 ·cases hb:s[i.toNat]? with
  |none=>rw[hb]at h;cases h
  |some b=>
   rw[hb]at h
   simp at h
   have:=(List.getElem?_eq_some_iff.1 hb).1
   have:=b.toNat_lt
   omega
 ·cases h
theorem Am.oR{t:TypeId}{s:Ax}{k:IntKind}{i z:Int}(ht:P.underlying t=some .string)(hx:E x=some (sv s))(hy:E y=some (.int k i))(h:EE s i=some z):Am P (.index t x y) T E H O (.int .u8 z):=by
 unfold EE at h
 split at h
 ·rename_i h0
  cases hb:s[i.toNat]? with
  |none=>rw[hb]at h;cases h
  |some b=>
   rw[hb]at h
   simp at h
   subst h
   exact Am.byteOf ht hx hy h0 (by
    have hlt:=(List.getElem?_eq_some_iff.1 hb).1
    show ByteArray.mk (Array.mk s) |>.data[i.toNat]?=some b
    simpa using hb)
 ·cases h
theorem DK(a:Ax):(ByteArray.mk (Array.mk a)).toList=a:=by rw[ByteArray.toList_eq]
theorem Am.eqStr{t Ty:TypeId}{a b:Ax}(ht:P.underlying t=some .string)(hx:E x=some (sv a))(hy:E y=some (sv b)):Am P (.binOp .eql t x y Ty) T E H O (.bool (decide (a=b))):= .Aj fun ac w o ho _ he _=>by
 have h:(a==b)=decide (a=b):=by rw[Bool.eq_iff_iff];simp
 simp only[sv]at*
 simp[execOp,ho,he x _ hx,he y _ hy,eqGuard,binOp,Op.stringOp,DK,h]
theorem Am.nW{t Ty:TypeId}{a b:Ax}(ht:P.underlying t=some .string)(hx:E x=some (sv a))(hy:E y=some (sv b)):Am P (.binOp .neq t x y Ty) T E H O (.bool (!decide (a=b))):= .Aj fun ac w o ho _ he _=>by
 have h:(a==b)=decide (a=b):=by rw[Bool.eq_iff_iff];simp
 simp only[sv]at*
 simp[execOp,ho,he x _ hx,he y _ hy,eqGuard,binOp,Op.stringOp,DK,bne,h]
theorem Am.ltStr{t Ty:TypeId}{a b:Ax}(hx:E x=some (sv a))(hy:E y=some (sv b)):Am P (.binOp .lss t x y Ty) T E H O (.bool (Op.bytesLess a b)):= .Aj fun ac w o ho _ he _=>by
 simp only[sv]at*
 simp[execOp,ho,he x _ hx,he y _ hy,eqGuard,binOp,Op.stringOp,DK]
theorem Am.iO{t Ty:TypeId}{a b:Ax}(hx:E x=some (sv a))(hy:E y=some (sv b))(h:a.length+b.length<=Ak):Am P (.binOp .add t x y Ty) T E H O (sv (a++b)):= .Aj fun ac w o ho _ he _=>by
 have h1:¬(((ByteArray.mk (Array.mk a)).size+(ByteArray.mk (Array.mk b)).size:Nat):Int)>IntKind.i64.max:=by
  have e1:(ByteArray.mk (Array.mk a)).size=a.length:=rfl
  have e2:(ByteArray.mk (Array.mk b)).size=b.length:=rfl
  rw[e1,e2]
  simp[IntKind.max,IntKind.signed,IntKind.bits,Ak]at*
  omega
 have h2:ByteArray.mk (Array.mk a)++ByteArray.mk (Array.mk b)=ByteArray.mk (Array.mk (a++b)):=by
  apply ByteArray.ext
  rw[ByteArray.data_append]
  simp
 simp only[sv]at*
 simp only[execOp,ho,he x _ hx,he y _ hy,eqGuard,binOp,Op.stringOp,if_neg h1,h2]
 simp
theorem Am.U1{t:TypeId}{d:TypeDesc}{B off i bytes:Nat}{z:Value}{cs:Array Value}{t':TypeId}{fr:Nat×Nat}{vs:List Value}(ht:P.underlying t=some d)(hd:C5 d=true)(hsz:TI P t vs.length bytes z)(hx:E x=some (ptr B off))(hi:O[i]?=some (.Af B (.cells cs t' fr)))
  (hv:(cs.toList.drop off).take vs.length=vs):Am P (.load t x) T E H O (.agg vs.toArray):=
 Am.gF ht hd hsz hx hi fun j u hj=>by
  have hlt:=(List.getElem?_eq_some_iff.1 hj).1
  have:((cs.toList.drop off).take vs.length)[j]?=some u:=by rw[hv];exact hj
  rw[List.getElem?_take]at this
  simp[hlt]at this
  simpa using this
end
end Go.GK
namespace Go.GK
section
variable {P : Program} {Q : Exit -> Act -> World -> Prop} {n : Nat} {L : List (Nat × Value)} {H : Hp} {O : List Ao} {ops : Array Oper} {rest : List Oper} {T : TypeId}
variable {α : Type} {c : Cd α}
theorem SH.T'{w:World}(hs:SH w H O){i size m:Nat}{v:Value}{e:TypeId}{xs:List Value}(hi:O[i]?=some (.row v e size m xs)):v.oneCell'=true:=by
 rcases(hs.JU hi).1 with⟨rfl,_⟩|⟨a,cap,rfl,_⟩<;>rfl
theorem Bl.ET{op:Op}{E:Operand->Option Value}{R:Value->Hp->List Ao->Prop}(r:Nat)(h:Bl P op T E H O R)(hr:∀v H' O',R v H' O'->∃e size m xs,O'[r]?=some (.row v e size m xs)):Bl P op T E H O (fun v H' O'=>R v H' O'/\v.oneCell'=true):=
 fun a w o next Q h1 h2 h3 h4 h5=>h a w o next Q h1 h2 h3 h4 fun v w' H' O' k1 k2 k3=>by
  obtain⟨e,size,m,xs,hi⟩:=hr v H' O' k2
  exact h5 v w' H' O' k1 ⟨k2,k3.T' hi⟩ k3
end
def placesOf(P:Program)(t:TypeId):Option (List (Nat×Nat)):=
 match P.underlying t with
 |some (.struct fs)=>fs.toList.mapM fun f=>(P.info? f.type).map fun i=>(f.offset,i.size)
 |_=>none
theorem run_places{P:Program} :∀(l:List Field) (ps:List (Nat×Nat)),(l.mapM fun f=>(P.info? f.type).map fun i=>(f.offset,i.size))=some ps->
  ∀w,(l.mapM fun f=>do pure (f.offset,<-Go.sizeOf f.type):Sem (List (Nat×Nat))).run P w= .ok ps w
 | [],ps,h,w=>by simp at h;subst h;simp
 |f::l,ps,h,w=>by
  rw[List.mapM_cons]at h
  cases hi:P.info? f.type with
  |none=>simp[hi]at h
  |some i=>
   cases hl:(l.mapM fun f=>(P.info? f.type).map fun i=>(f.offset,i.size))with
   |none=>simp[hi,hl]at h
   |some qs=>
    simp[hi,hl]at h
    subst h
    have ih:=run_places l qs hl w
    have hsz:(Go.sizeOf f.type).run P w= .ok i.size w:=by simp[Go.sizeOf,typeInfo,hi]
    rw[List.mapM_cons]
    simp only[Sem.run_bind,hsz,Result.andThen_ok,Sem.run_pure,ih]
def Re(place:Nat->Option (Nat×Nat))(cells:Array Value):List (Nat×Array Value)->Option (Array Value)
 | []=>some cells
 |(i,v)::rest=>
  match place i with
  |none=>none
  |some (off,size)=>
   if v.size≠size||off+v.size>cells.size then none
   else Re place (v.zipIdx.foldl (fun cs (c,j)=>cs.setIfInBounds (off+j) c) cells) rest
theorem fill_eq(place:Nat->Option (Nat×Nat)):∀(vs:List (Nat×Value)) (cells:Array Value),Instr.fill place cells vs=Re place cells (vs.map fun p=>(p.1,p.2.cells))
 | [],_=>rfl
 |(i,v)::rest,cells=>by
  simp only[Instr.fill,List.map_cons,Re]
  cases place i with
  |none=>rfl
  |some q=>
   obtain⟨off,size⟩:=q
   simp only
   split
   ·rfl
   ·exact fill_eq place rest _
theorem iN{v:Value}(h:v.oneCell'=true):v.cells= #[v]:=by cases v<;>simp_all [Value.cells,Value.oneCell']
theorem iM{v:Value}(h:v.oneCell'=true):v.cells.toList=[v]:=by rw[iN h]
abbrev VC(vs:List (Nat×Value))(vcs:List (Nat×Array Value)):Prop:=vs.map (fun p=>(p.1,p.2.cells))=vcs
section
variable {P : Program} {T : TypeId} {E : Operand -> Option Value} {H : Hp} {O : List Ao}
theorem Am.iW{t:TypeId}{size bytes:Nat}{z:Value}{zs cs:Array Value}{ps:List (Nat×Operand)}{vs:List (Nat×Value)}{places:List (Nat×Nat)}(hp:placesOf P t=some places)(hz:TI P t size bytes z)(hzc:z.cells=zs)
  {vcs:List (Nat×Array Value)} (hps:TH E ps=some vs) (hv:VC vs vcs) (K9:Re (places[·]?) zs vcs=some cs):Am P (.build t ps.toArray) T E H O (.agg cs):=by
 have hf:Instr.fill (places[·]?) zs vs=some cs:=by rw[fill_eq,hv];exact K9
 unfold placesOf at hp
 split at hp
 ·rename_i fs hu
  refine Am.build (places:=places.toArray) hu hz hzc (fun w=>?_) hps (by simpa using hf)
  have h:=run_places fs.toList places hp w
  rw[Array.mapM_eq_mapM_toList]
  show((List.mapM (fun f:Field=>(do pure (f.offset,<-Go.sizeOf f.type):Sem (Nat×Nat))) fs.toList)>>=fun l=>pure l.toArray:Sem (Array (Nat×Nat))).run P w=_
  rw[Sem.run_bind,h]
  simp
 ·cases hp
end
end Go.GK
namespace Go.GK
def BP(v:Value)(k:Nat):Value:=match v with
 | .agg cs=>cs.getD k undef
 | .tuple vs=>vs.getD k undef
 |_=>undef
section
variable {P : Program} {T : TypeId} {E : Operand -> Option Value} {H : Hp} {O : List Ao} {ρ : Rec} {i : Nat}
theorem Bl.iX{t e:TypeId}{len size bytes:Nat}{z:Value}{zs cs:Array Value}{ps:List (Nat×Operand)}{vs:List (Nat×Value)}(r:Nat)(ht:P.underlying t=some (.slice e))(hz:TI P e size bytes z)(hzc:z.cells=zs)
  (hlen:Nat.ble (len*size) 16777216=true) (h0:Nat.blt 0 (len*size)=true) (hps:TH E ps=some vs) (hf:Instr.fill (fun i=>some (i*size,size)) ((Array.range (len*size)).map (zs[· %zs.size]!)) vs=some cs) (hcs:cs.size=len*size) (hi:O[r]?=some .emp):
  Bl P (.buildSlice t len ps.toArray) T E H O (fun v H' O'=>H'=H/\O'=O.set r (.row (rR ρ i v i) e size len cs.toList)/\rR ρ i v i=v):= .Aj fun a w o ho _ he hs=>by
 have h1:(ps.toArray.map fun(i,x)=>(i,a.eval x)).toList=vs:=by simpa using FG he hps
 have hlen':¬len*size>2^24:=by have:=Nat.le_of_ble_eq_true hlen;omega
 have h0':¬len*size=0:=by simp at h0;omega
 refine⟨.slice (some ⟨w.heap.size,0,none⟩) len len,w.alloc (.cells cs e),H,_,?_,Hp.le.refl H,⟨rf,by rw[Nl],by rw[Nl]⟩,hs.set hi (World.grownBy_alloc w _ _) ?_ (fun b hb=> .inr (by simp[Ao.has,Value.ownBlock]at hb;omega))⟩
 ·simp only[execOp,ho,Instr.buildSlice,Sem.run_bind,AG ht,Result.andThen_ok,hz.sizeOf,if_neg hlen',if_neg h0',hz.zeroValue,hzc,Sem.run_pure,h1,hf]
  simp[newRow]
 ·refine⟨by simpa using hcs, .inr ⟨w.heap.size,len,cs,rf,Nat.zero_le _,heap_alloc_new w _,Nat.le_refl _,?_,hcs,?_⟩⟩
  ·have h2:=Nat.le_of_ble_eq_true hlen
   have h3:len<=len*size:=Nat.le_mul_of_pos_right _ (Nat.pos_of_ne_zero fun h=>by subst h;simp at h0')
   simp only[maxLen];omega
  ·rw[List.take_of_length_le];simp[hcs]
end
section
variable {P : Program} {w : World} {H : Hp} {O : List Ao} {f : FuncId} {vs : List Value}
theorem SH.back{i:Nat}{r:Ao}(hi:i<O.length)(h:SH w H (r::O.eraseIdx i)):SH w H (O.set i r):=by
 refine h.pick (fun j=>if j=i then 0 else if j<i then j+1 else j) (fun j s hs=>?_) (fun j k hj hk he=>?_)
 ·rw[List.getElem?_set]at hs
  by_cases e:j=i
  ·subst e
   simp[hi]at hs
   simp[hs]
  ·rw[if_neg (fun x=>e x.symm)]at hs
   rw[if_neg e]
   by_cases h1:j<i
   ·rw[if_pos h1,List.getElem?_cons_succ,List.getElem?_eraseIdx,if_pos h1];exact hs
   ·rw[if_neg h1]
    obtain⟨q,rfl⟩:∃q,j=q+1:=⟨j-1,by omega⟩
    rw[List.getElem?_cons_succ,List.getElem?_eraseIdx,if_neg (by omega)];exact hs
 ·split at he<;>split at he<;>(try split at he)<;>(try split at he)<;>omega
theorem NF{i:Nat}{r:Ao}(hi:O[i]?=some r):O.set i r=O:=by
 apply List.ext_getElem?
 intro j
 rw[List.getElem?_set]
 split
 ·rename_i e;subst e
  have:=(List.getElem?_eq_some_iff.1 hi).1
  simp[this]at hi⊢;exact hi.symm
 ·rfl
end
end Go.GK
namespace Go.GK
section
variable {H : Hp} {O : List Ao}
theorem SH.HN{w:World}{i b:Nat}{r:Ao}{o:Obj}(hi:O[i]?=some r)(hb:r.block=some b)(hn:H.at_ b=none)(hr:∀w':World,w'.heap[b]?=some o->r.ok w')(h:SH w (H.put b o) (O.eraseIdx i)):SH w H O:=by
 have hbo:(H.put b o).at_ b=some o:=by simp[Hp.put]
 have hne:∀c o',H.at_ c=some o'->c≠b:=fun c o' hc e=>by subst e;rw[hn]at hc;cases hc
 have key:∀j s,O[j]?=some s->j≠i->∃k,(O.eraseIdx i)[k]?=some s/\k=(if j<i then j else j-1):=fun j s hs hj=>by
  refine⟨_,?_,rf⟩
  rw[List.getElem?_eraseIdx]
  by_cases h1:j<i
  ·rw[if_pos h1,if_pos h1];exact hs
  ·rw[if_neg h1,if_neg (by omega),show j-1+1=j by omega];exact hs
 have hdis:∀j s c,O[j]?=some s->j≠i->s.has c->c≠b/\H.at_ c=none:=fun j s c hs hj hc=>by
  obtain⟨k,hk,_⟩:=key j s hs hj
  have h1:=h.Ii k s c hk hc
  refine⟨fun e=>(by subst e;rw[hbo]at h1;cases h1),?_⟩
  simp only[Hp.put]at h1
  split at h1
  ·cases h1
  ·exact h1
 refine⟨fun c o' hc=>h.K3 c o' ?_,h.os,h.output,h.tape,fun j s hs=>?_,fun j s c hs hc=>?_,fun j k s s' c hs hs' hc hc'=>?_⟩
 ·simp only[Hp.put];rw[if_neg (hne c o' hc)];exact hc
 ·by_cases hj:j=i
  ·subst hj;rw[hi]at hs;cases hs;exact hr w (h.K3 b o hbo)
  ·obtain⟨k,hk,_⟩:=key j s hs hj
   exact h.ok k s hk
 ·by_cases hj:j=i
  ·subst hj;rw[hi]at hs;cases hs;cases Ao.has_eq hb hc;exact hn
  ·exact(hdis j s c hs hj hc).2
 ·by_cases hj:j=i
  ·subst hj
   rw[hi]at hs;cases hs;cases Ao.has_eq hb hc
   by_cases hk:k=j
   ·exact hk.symm
   ·exact absurd rf (hdis k s' b hs' hk hc').1
  ·by_cases hk:k=i
   ·subst hk
    rw[hi]at hs';cases hs';cases Ao.has_eq hb hc'
    exact absurd rf (hdis j s b hs hj hc).1
   ·obtain⟨j',h1,e1⟩:=key j s hs hj
    obtain⟨k',h2,e2⟩:=key k s' hs' hk
    have:=h.nd j' k' s s' c h1 h2 hc hc'
    rw[e1,e2]at this
    split at this<;>split at this<;>omega
theorem SH.X4{w:World}(hs:SH w H O){i:Nat}{v:Value}{e:TypeId}{size n:Nat}{xs:List Value}(hi:O[i]?=some (.row v e size n xs)):
  ∃H',H.le H'/\SH w H' (O.eraseIdx i)/\Sl H' v size n xs/\∀w',SH w' H' (O.eraseIdx i)->SH w' H O:=by
 have h:=hs.ok i _ hi
 simp only[Ao.ok]at h
 rcases h.2 with⟨rfl,rfl⟩|⟨g,cap,cur,rfl,hg0,hg,hn,hcap,hcs,htake⟩
 ·have:xs=[]:=List.eq_nil_of_length_eq_zero (by simpa using h.1)
  subst this
  refine⟨H,Hp.le.refl H,hs.drop i,Sl.nil H size,fun w' hw'=>?_⟩
  have hl:=(List.getElem?_eq_some_iff.1 hi).1
  have h1:=(hw'.Fx e size).back hl
  have h2:O.set i (.row (.slice none 0 0) e size 0 [])=O:=NF hi
  rwa [h2]at h1
 ·obtain⟨h1,h2⟩:=hs.Jg hi (b:=g) rfl hg
  refine⟨_,h1,h2,⟨h.1, .inr ⟨_,_,rf,hn⟩,fun j u hj=>⟨⟨g,0+j,none⟩,cur,e,(0,0),by simp only[AE,Addr.add_lit],rf,by simp[Hp.put],?_⟩⟩,fun w' hw'=>?_⟩
  ·rw[<-htake]at hj
   rw[List.getElem?_take]at hj
   split at hj
   ·simpa using hj
   ·simp at hj
  ·exact SH.HN hi rf (hs.Ii i _ g hi rf) (fun w'' hw''=>⟨h.1, .inr ⟨g,cap,cur,rf,hg0,hw'',hn,hcap,hcs,htake⟩⟩) hw'
end
end Go.GK
namespace Go.GK
open Go.Maps
def Aq{κ β:Type} [DecidableEq κ]:List (κ×β)->κ->Option β
 | [],_=>none
 |(k,v)::m,x=>if k=x then some v else Aq m x
def Gt{κ β:Type} [DecidableEq κ]:List (κ×β)->κ->β->List (κ×β)
 | [],_,_=>[]
 |(k,v)::m,x,y=>if k=x then(k,y)::m else(k,v)::Gt m x y
def Bk{κ β:Type} [DecidableEq κ](m:List (κ×β))(x:κ)(y:β):List (κ×β):=match Aq m x with
 |some _=>Gt m x y
 |none=>m++[(x,y)]
section
variable {κ β : Type} [DecidableEq κ]
theorem SF(m:List (κ×β))(x:κ)(y:β):(Gt m x y).length=m.length:=by
 induction m with
 |nil=>rfl
 |cons p m ih=>obtain⟨k,v⟩:=p;simp only[Gt];split<;>simp[ih]
theorem SG(m:List (κ×β))(x z:κ)(y:β):Aq (Gt m x y) z=if z=x then(Aq m x).map (fun _=>y)else Aq m z:=by
 induction m with
 |nil=>simp[Aq,Gt]
 |cons p m ih=>
  obtain⟨k,v⟩:=p
  simp only[Gt]
  by_cases h:k=x
  ·subst h
   by_cases hz:z=k
   ·subst hz;simp[Aq]
   ·have:¬k=z:=fun e=>hz e.symm
    simp[Aq,hz,this]
  ·rw[if_neg h]
   simp only[Aq]
   by_cases hz:z=x
   ·subst hz;simp[h,ih]
   ·by_cases hk:k=z
    ·subst hk;simp[hz]
    ·simp[hk,ih,hz]
theorem SJ(m:List (κ×β))(x z:κ)(y:β)(h:Aq m x=none):Aq (m++[(x,y)]) z=if z=x then some y else Aq m z:=by
 induction m with
 |nil=>
  by_cases hz:z=x
  ·subst hz;simp[Aq]
  ·have:¬x=z:=fun e=>hz e.symm
   simp[Aq,hz,this]
 |cons p m ih=>
  obtain⟨k,v⟩:=p
  simp only[Aq]at h
  split at h
  ·cases h
  ·rename_i hk
   simp only[List.cons_append,Aq]
   by_cases hz:z=x
   ·subst hz;simp[hk,ih h]
   ·by_cases hkz:k=z
    ·subst hkz;simp[hz]
    ·simp[hkz,ih h,hz]
theorem Ga(m:List (κ×β))(x z:κ)(y:β):Aq (Bk m x y) z=if z=x then some y else Aq m z:=by
 unfold Bk
 cases h:Aq m x with
 |none=>exact SJ m x z y h
 |some v=>rw[SG,h];rfl
theorem H_(m:List (κ×β))(x:κ)(y:β):(Bk m x y).length=if(Aq m x).isSome then m.length else m.length+1:=by
 unfold Bk
 cases h:Aq m x with
 |none=>simp
 |some v=>simp[SF]
end
structure Ld(P:Program)(kt:TypeId)(κ:Type)where
 val:κ->Value
 lit:κ->Lit
 ok:κ->Prop
 keyed:Keyed P kt
 of:∀k,ok k->keyOf P kt (val k)=some (lit k)
 key:∀k,WideAt.IsKeyLit (lit k)
 inj:∀k k',lit k=lit k'->k=k'
theorem mY{n:Int}(h:C6 n):(Lit.int .i64 n).wf=true:=by
 simp only[C6]at h
 simp[Lit.wf,IntKind.min,IntKind.max,IntKind.signed,IntKind.bits]
 omega
def yZ{P:Program}{kt:TypeId}(h:P.underlying kt=some (.int .i64)):Ld P kt Int where
 val n:= .int .i64 n
 lit n:= .int .i64 n
 ok n:=C6 n
 keyed:=int_keyed h
 of k hk:=keyOf_int_mk h (mY hk)
 key _:=trivial
 inj _ _ h:=by injection h
def yX{P:Program}{kt:TypeId}(h:P.underlying kt=some .string):Ld P kt Ax where
 val s:=sv s
 lit s:= .string s
 ok s:=s.length<=Ak
 keyed:=string_keyed h
 of k hk:=by
  have:=Go.WideMaps.keyOf_string_mk (s:=⟨⟨k⟩⟩) h (by
   show k.length<=maxLen
   simp only[Ak,maxLen]at*;omega)
  exact this
 key _:=trivial
 inj _ _ h:=by injection h
section
variable {P : Program} {T : TypeId} {E : Operand -> Option Value} {H : Hp} {O : List Ao}
theorem Am.makeFunc{fn:Fn}{fs cs:List Operand}{vf vc:List Value}(hf:Ku E fs=some vf)(hc:Ku E cs=some vc):Am P (.makeFunc fn fs.toArray cs.toArray) T E H O (.func fn vf.toArray vc.toArray):= .Aj fun a w o ho _ he _=>by
 have h1:=EJ (a:=a) he hf
 have h2:=EJ (a:=a) he hc
 simp[execOp,ho,Instr.makeFunc,h1,h2]
theorem Bl.YV{x:Operand}{f:FuncId}{first caps:List Value}{args:List Operand}{vs:List Value}{tys:Array TypeId}{R:Value->Hp->List Ao->Prop}(hent:Nb P f)(hx:E x=some (.func (.func f) first.toArray caps.toArray))(ha:Ku E args=some vs)(ht:L4 P f (first++vs++caps) H O R):Bl P (.call {callee:= .value x,args:=args.toArray,argTypes:=tys}) T E H O R:=fun a w o next Q ho _ he hs k=>by
 have hr:(execOp a.eval o).run P w= .ok (.enter f (first++vs++caps).toArray) w:=by
  have:=hent.run (first++vs++caps).toArray w
  simp[execOp,ho,resolve,Deferred.ofValue,he x _ hx,invoke,EJ he ha]at this⊢
  rw[this]
 unfold Oper.wp
 rw[hr]
 refine(ht w hs).mono ?_
 rintro e w' ⟨v,H',O',rfl,h2,h3,h4⟩
 exact k v w' H' O' h2 h4 h3
end
end Go.GK
namespace Go.GK
def u5:Cd UInt8 where
 sz:=1
 Bm _ b cs:=cs=[.int .u8 (b.toNat:Nat)]
 len h:=by subst h;rfl
 mono _ h:=h
 one h:=by subst h;intro u hu;simp at hu;subst hu;rfl
theorem QY{H:Hp} :∀ {l:Ax} {xs:List Value},AM u5 H l xs↔xs=Lib.byteCells l
 | [],xs=>Iff.rfl
 |b::l,xs=>by
  constructor
  ·rintro⟨cs,ys,rfl,h1,h2⟩
   rw[show cs=[.int .u8 (b.toNat:Nat)]from h1,QY.1 h2];rfl
  ·intro h;exact⟨[.int .u8 (b.toNat:Nat)],Lib.byteCells l,h,rfl,QY.2 rfl⟩
section
variable {P : Program} {T : TypeId} {E : Operand -> Option Value} {H : Hp} {O : List Ao}
theorem Am.oH{x y:Operand}{t Ty:TypeId}{te:TypeId}{j:TypeInfo}(hp:P.underlying t=some (.pointer te))(hj:P.info? te=some j)(hx:E x=some (.pointer none))(hy:E y=some (.pointer none)):Am P (.binOp .eql t x y Ty) T E H O (.bool true):= .Aj fun a w o ho _ he _=>by
 have h:(binOp .eql t (.pointer none) (.pointer none)).run P w= .ok (.bool true) w:=by
  have h:∀d:Nat,(Op.equalIn (d+1) t (.pointer none) (.pointer none)).run P w= .ok true w:=fun d=>by
   simp[Op.equalIn,AG hp,sizeOf,typeInfo,hj,sameAddr]
  simp only[binOp]
  show(do pure (.bool (<-Op.equal t _ _)):Sem Value).run P w=_
  unfold Op.equal Op.maxDepth
  simp[h 9999]
 simp[execOp,ho,he x _ hx,he y _ hy,eqGuard,h]
theorem Am.iv{x y:Operand}{t Ty:TypeId}{te:TypeId}{j:TypeInfo}{a:Addr}(hp:P.underlying t=some (.pointer te))(hj:P.info? te=some j)(hx:E x=some (.pointer (some a)))(hy:E y=some (.pointer none)):Am P (.binOp .eql t x y Ty) T E H O (.bool false):= .Aj fun ac w o ho _ he _=>by
 have h:(binOp .eql t (.pointer (some a)) (.pointer none)).run P w= .ok (.bool false) w:=by
  have h:∀d:Nat,(Op.equalIn (d+1) t (.pointer (some a)) (.pointer none)).run P w= .ok false w:=fun d=>by
   simp[Op.equalIn,AG hp,sizeOf,typeInfo,hj,sameAddr]
  simp only[binOp]
  show(do pure (.bool (<-Op.equal t _ _)):Sem Value).run P w=_
  unfold Op.equal Op.maxDepth
  simp[h 9999]
 simp[execOp,ho,he x _ hx,he y _ hy,eqGuard,h]
theorem Am.f'{x y:Operand}{t Ty:TypeId}{te:TypeId}{j:TypeInfo}{b off:Nat}(hp:P.underlying t=some (.pointer te))(hj:P.info? te=some j)(hx:E x=some (ptr b off))(hy:E y=some (ptr b off)):Am P (.binOp .neq t x y Ty) T E H O (.bool false):= .Aj fun ac w o ho _ he _=>by
 have h:=Lib.run_neq_ptr_same (P:=P) w (tp:=t) ⟨b,off,none⟩ hp hj
 simp only[ptr]at hx hy
 simp[execOp,ho,he x _ hx,he y _ hy,eqGuard,h]
theorem Am.TT{x:Operand}{src dst t e:TypeId}{j:TypeInfo}{b i:Nat}{cs:Array Value}(hs:P.underlying src=some (.pointer t))(hd:P.underlying dst=some .unsafePointer)(ht:P.info? t=some j)(hj:j.size≠0)(hx:E x=some (ptr b 0))(hi:O[i]?=some (.Af b (.cells cs e (0,0))))(h0:0<cs.size):Am P (.convert src dst x) T E H O (ptr b 0):= .Aj fun ac w o ho _ he hw=>by
 have hg:=hw.ok i _ hi
 simp only[Ao.ok]at hg
 have h:=Lib.run_to_unsafe (P:=P) w (src:=src) (dst:=dst) (cells:=cs.size) (e:=e) ⟨b,0,none⟩ hs hd ht hj (by simp[World.shape?,hg]) h0
 simp only[ptr]at hx
 simp[execOp,ho,he x _ hx,h,ptr]
theorem Am.UA{x:Operand}{src dst u e:TypeId}{j:TypeInfo}{b i:Nat}{cs:Array Value}(hs:P.underlying src=some .unsafePointer)(hd:P.underlying dst=some (.pointer u))(hu:P.info? u=some j)(hx:E x=some (ptr b 0))(hi:O[i]?=some (.Af b (.cells cs e (0,0))))(hl:liesAt P P.depth e (cs.size/P.cellsOf e) 0 u 1=true):Am P (.convert src dst x) T E H O (ptr b 0):= .Aj fun ac w o ho _ he hw=>by
 have hg:=hw.ok i _ hi
 simp only[Ao.ok]at hg
 have h:=Lib.run_from_unsafe (P:=P) w (src:=src) (dst:=dst) (cells:=cs.size) (e:=e) ⟨b,0,none⟩ hs hd hu (by simp[World.shape?,hg]) hl
 simp only[ptr]at hx
 simp[execOp,ho,he x _ hx,h,ptr]
theorem Am.UE{x:Operand}{f:FuncId}{fn:Func}{v:Value}{tys:Array TypeId}(hf:P.funcs[f]?=some fn)(hname:(fn.name== "runtime.NumGoroutine")=false)(hb:fn.body.isNone=true)(hn:Extern.findNext fn=none)(he':Extern.find fn=some Extern.AbiNoEscape.same)(hx:E x=some v):
  Am P (.call {callee:= .value (.func f),args:= #[x],argTypes:=tys}) T E H O v:= .Aj fun ac w o ho _ he hw=>by
 have h:=run_callFunc_extern hf hname hb hn he' #[v] w
 rw[Lib.run_noEscape]at h
 have hev:ac.eval (.func f)= .func (.func f) #[] #[]:=rfl
 simp[execOp,ho,resolve,Deferred.ofValue,hev,invoke,he x _ hx,h]
theorem Am.IZ{x y:Operand}{pt it:TypeId}{p:Option Addr}(hx:E x=some (.pointer p))(hy:E y=some (.int .i64 0)):Am P (.call {callee:= .builtin .unsafeString,args:= #[x,y],argTypes:= #[pt,it]}) T E H O (sv []):= .Aj fun ac w o ho _ he hw=>by
 have h:=Lib.run_unsafeString_none (P:=P) w pt it o.type p
 simp[execOp,ho,resolve,invoke,builtin,he x _ hx,he y _ hy,h]
 rfl
theorem Bl.unsafeString{x y:Operand}{pt it e:TypeId}{v:Value}{i:Nat}{l:Ax}{xs:List Value}(hp:P.underlying pt=some (.pointer e))(hc:P.cellsOf e=1)(hx:E x=some (AE v 0))(hy:E y=some (.int .i64 (l.length:Nat)))(hi:O[i]?=some (.row v e 1 l.length xs))(hL:AM u5 H l xs)(h0:l≠ []):
  Bl P (.call {callee:= .builtin .unsafeString,args:= #[x,y],argTypes:= #[pt,it]}) T E H O (fun u H' O'=>H'=H/\O'=O.set i .emp/\u=sv l):= .Aj fun ac w o ho _ he hw=>by
 have hown:=hw.ok i _ hi
 simp only[Ao.ok]at hown
 rcases hown.2 with⟨_,hz⟩|⟨g,cap,cur,rfl,_,hg,hnc,hcm,hcs,htake⟩
 ·exact absurd (List.length_eq_zero_iff.1 hz) h0
 ·have hxs:=QY.1 hL
  have h:=Lib.run_unsafeString_row (P:=P) w pt it o.type e hp hc g cur.size (by simp[World.shape?,hg]) l h0 (by simp at hcs;omega) (by simp only[maxLen]at hcm;omega) (fun j x hj=>hown.cells (g:=g) rfl j _ (by rw[hxs];simp[Lib.byteCells,hj]))
  refine⟨sv l,w.freeze ⟨g,0,none⟩ l.length,H,O.set i .emp,?_,Hp.le.refl H,⟨rfl,rfl,rfl⟩,hw.set hi (r':= .emp) ?_ trivial (fun b hb=>by cases hb)⟩
  ·simp only[AE,Addr.add]at hx
   simp[execOp,ho,resolve,invoke,builtin,he x _ hx,he y _ hy,h]
   rfl
  ·have hn0:¬l.length=0:=fun h=>h0 (List.length_eq_zero_iff.1 h)
   unfold World.freeze
   rw[if_neg hn0]
   refine⟨rf,rf,rf,by simp,fun k hk hne=>?_⟩
   have:¬g=k:=fun e=>hne (by subst e;rfl)
   simp[Array.getElem?_modify,this]
end
end Go.GK
namespace Go.GK
open Go.Proofs
def FO(P:Program)(H:Hp):Prop:= ∀w O,SH w H O->Lib.TabIs P w "internal/strconv.uint64pow10" .u64 Lib.pow10Tab
theorem FO.mono{P:Program}{H H':Hp}(h:FO P H)(hl:H.le H'):FO P H':=fun w O hs=>h w O (hs.weaken hl)
theorem LJ(w:World)(k:Nat)(os:Array Obj):w.grownBy (Go.Sort.grow (w.drewN k) os) none:=
 ⟨rfl,rfl,rfl,by simp[Go.Sort.grow,World.drewN],fun b hb _=>by
  simp only[Go.Sort.grow,World.drewN];rw[Array.getElem?_append_left hb]⟩
section
variable {P : Program} {H : Hp} {O : List Ao}
theorem Zh.itoa{f:FuncId}{n:Int}(hc:∀(n:Int), -9223372036854775808<=n->n<=9223372036854775807->∀(w:World),Lib.TabIs P w "internal/strconv.uint64pow10" .u64 Lib.pow10Tab->Calls P f #[.int .i64 n] w fun e w'=>e= .returned (.string ⟨(Lib.itoa n).toArray⟩)/\∃k os,w'=Go.Sort.grow (w.drewN k) os)
  (hG:FO P H) (hn:C6 n):Zh P f [.int .i64 n] H O (sv (Lib.itoa n)):=fun w hs=>
 (hc n hn.1 hn.2 w (hG w O hs)).mono fun e w' ⟨h1,k,os,h2⟩=>⟨h1,by subst h2;exact hs.grown (LJ w k os)⟩
end
end Go.GK
namespace Go.GK
def yU(lo hi:Nat)(x:Nat):Bool:=decide (lo<=x)&&decide (x<=hi)
def UQ(p:Nat->Bool)(k:Nat):List Nat:=(List.range k).filter p
def dz(p:Nat->Bool)(k:Nat):Nat:=(UQ p k).length
def lst(p:Nat->Bool):Nat:=((List.range 256).find? p).getD 0
def anyS(p:Nat->Bool):Bool:=((List.range 256).find? p).isSome
def setLast:List (Nat×Nat)->Nat->List (Nat×Nat)
 | [],_=>[]
 | [a],k=>[(a.1,k)]
 |a::b::l,k=>a::setLast (b::l) k
def Xv(p:Nat->Bool):Nat->List (Nat×Nat)
 |0=>[]
 |k+1=>if p k then(if 0<k/\p (k-1)=true then setLast (Xv p k) k else Xv p k++[(k,k)])else Xv p k
def CM(p:Nat->Bool)(b:Int):Bool:=decide (0<=b)&&decide (b<256)&&p b.toNat
def ny(p:Nat->Bool):Nat->Nat->Nat
 |0,y=>y
 |f+1,y=>if CM p ((y:Int)+1)then ny p f (y+1)else y
def re(p:Nat->Bool)(y:Nat):Nat:=ny p (256-y) y
def ue(p:Nat->Bool)(k:Nat):List (Nat×Nat):=((List.range k).filter fun x=>p x&& !CM p ((x:Int)-1)).map fun x=>(x,re p x)
attribute [irreducible] dz lst anyS UQ Xv ue CM re
end Go.GK
namespace Go.GK
abbrev St:=Nat->Bool
def nth(l:List St)(i:Nat):St:=l.getD i (fun _=>false)
def P0(l:List St)(x y:Nat):Bool:=l.all fun p=>p x==p y
def cls(l:List St)(x y:Nat):Bool:=decide (x<=y)&&P0 l x y
def T_(l:List St):Nat->List St×St
 |0=>([],fun _=>false)
 |k+1=>if(T_ l k).2 k then T_ l k else((T_ l k).1++[cls l k],fun y=>(T_ l k).2 y||cls l k y)
def ne(p:St):Bool:= !W3 p (fun _=>false)
def oK(p s:St):St:=fun x=>p x&&s x
def SS(p s:St):St:=fun x=>p x&&(fun y=> !s y) x
def t_(a b:St)(j:Nat):St:=if j=0 then a else b
def two(p s:St)(j:Nat):List St:=([oK p s,SS p s].take j).filter ne
def Ui(ps:List St)(s:St):List St:=ps.flatMap fun p=>two p s 2
def eK(l:List St)(i:Nat):List St:=(l.take i).foldl Ui [yU 0 255]
def nx(l:List St)(i m j:Nat):List St:=Ui ((eK l i).take m) (nth l i)++two (nth (eK l i) m) (nth l i) j
def cn(p:St):Nat:=dz p 256
def yP(ps:List St):Nat:=(ps.map cn).sum
def Md(b:Nat)(s:List St×St)(p:St):List St×St:=if p b then(s.1++[p],fun y=>s.2 y||p y)else s
def NP(ps:List St):Nat->List St×St
 |0=>([],fun _=>false)
 |b+1=>if(NP ps b).2 b then NP ps b else ps.foldl (Md b) (NP ps b)
def nI(ps:List St)(b m:Nat):List St×St:=(ps.take m).foldl (Md b) (NP ps b)
theorem ne_eq(p:St):(!W3 p (fun _=>false))=ne p:=rfl
attribute [irreducible] P0 T_ eK nx NP nI nth cls ne oK SS
end Go.GK
namespace Go.GK
def szs(l:List (Nat×Nat)):Nat:=(l.map fun a=>a.2+1-a.1).sum
end Go.GK
namespace Go.GK
def pr(l:List (Nat×Nat))(i:Nat):Nat×Nat:=l.getD i (0,0)
def rgU(l:List (Nat×Nat))(i:Nat)(z:Nat):Bool:=(l.take i).any fun a=>yU a.1 a.2 z
def rgN(l:List (Nat×Nat))(i:Nat):Nat:=szs (l.take i)
def Zf(l:List St)(x y i:Nat):Bool:=P0 (l.take i) x y
attribute [irreducible] pr rgU rgN Zf
end Go.GK
namespace Go.GK
def o8(E:Operand->Option Value)(lo hi:Option Operand)(l h:Int)(n:Nat):Prop:=(lo=none/\l=0\/∃p k,lo=some p/\E p=some (.int k l))/\(hi=none/\h=(n:Int)\/∃p k,hi=some p/\E p=some (.int k h))
section
variable {P : Program} {T : TypeId} {E : Operand -> Option Value} {H : Hp} {O : List Ao} {α : Type} {c : Cd α}
theorem Gx(a:Addr):a.add 0=a:=by cases a;simp[Addr.add]
theorem MP{t e:TypeId}(ht:P.underlying t=some (.slice e)):P.underlying t=some (.slice (P.elem t)):=by simp[Program.elem,ht]
theorem MQ{t e:TypeId}(ht:P.underlying t=some (.slice e)):P.elem t=e:=by simp[Program.elem,ht]
theorem T8{t e:TypeId}{size bytes:Nat}{z:Value}{a:Option Addr}{n cap:Nat}{lo hi:Option Operand}{l h:Int}{ac:Act}(ht:P.underlying t=some (.slice e))(hz:TI P e size bytes z)(hB:o8 E lo hi l h n)(he:∀x v,E x=some v->ac.eval x=v)
  (h0:0<=l) (h1:l<=h) (h2:h<=(n:Nat)) (h3:n<=cap) (w:World):(Instr.sliceAt t (.slice a n cap) (lo.map ac.eval) (hi.map ac.eval) none).run P w= .ok (sliced a l.toNat h.toNat cap size) w:=by
 have ht':=MP ht
 have hs:(Go.sizeOf (P.elem t)).run P w= .ok size w:=by rw[MQ ht];exact hz.sizeOf
 rw[run_sliceAt_slice (h:=ht')]
 obtain⟨hl,hh⟩:=hB
 rcases hl with⟨rfl,rfl⟩|⟨p,k,rfl,hp⟩<;>rcases hh with⟨rfl,rfl⟩|⟨q,k',rfl,hq⟩
 ·simp only[Option.map_none];rw[run_slice_all (t:=t) (a:=a) (len:=n) (cap:=cap) (ht:=ht'),hs];simp[Result.andThen]
 ·simp only[Option.map_none,Option.map_some,he q _ hq];rw[run_slice_h (t:=t) (a:=a) (len:=n) (cap:=cap) (ht:=ht') (h0:=h1) (h2:=by omega),hs];simp[Result.andThen]
 ·simp only[Option.map_none,Option.map_some,he p _ hp];rw[run_slice_l (t:=t) (a:=a) (len:=n) (cap:=cap) (ht:=ht') (h0:=h0) (h1:=h1),hs];simp[Result.andThen]
 ·simp only[Option.map_some,he p _ hp,he q _ hq];rw[run_slice_lh (t:=t) (a:=a) (len:=n) (cap:=cap) (ht:=ht') (h0:=h0) (h1:=h1) (h2:=by omega),hs];simp[Result.andThen]
theorem Mm{w:World}{base:Nat}{e:TypeId}{size g cap n h:Nat}{xs:List Value}(hh:h<=n)
  (ho:w.ownsRow base e size (.slice (some ⟨g,0,none⟩) n cap) n xs):w.ownsRow base e size (.slice (some ⟨g,0,none⟩) h cap) h (xs.take (h*size)):=by
 obtain⟨h1,h2⟩:=ho
 rcases h2 with⟨h0,_⟩|⟨g',cap',cur,hv,hg,hh',hn,hcap,hsz,htake⟩
 ·cases h0
 ·cases hv
  refine⟨by rw[List.length_take,h1];exact Nat.min_eq_left (Nat.mul_le_mul_right _ hh), .inr ⟨g,cap,cur,rf,hg,hh',by omega,hcap,hsz,?_⟩⟩
  rw[<-htake,List.take_take,Nat.min_eq_left (Nat.mul_le_mul_right _ hh)]
theorem Bl.eA{x y:Operand}{t e:TypeId}{bytes:Nat}{z v:Value}{l:List α}{xs:List Value}{k:IntKind}{h:Int}{i:Nat}(ht:P.underlying t=some (.slice e))(hz:TI P e c.sz bytes z)(hx:E x=some v)(hy:E y=some (.int k h))
  (hi:O[i]?=some (.row v e c.sz l.length xs)) (hb:0<=h/\h<=(l.length:Nat)):
  Bl P (.slice t x none (some y) none) T E H O (fun v' H' O'=>H'=H/\O'=O.set i (.row v' e c.sz h.toNat (xs.take (h.toNat*c.sz)))):= .Aj fun ac w o ho _ he hw=>by
 have hown:=hw.ok i _ hi
 simp only[Ao.ok]at hown
 have hB:o8 E none (some y) 0 h l.length:=⟨.inl ⟨rfl,rfl⟩, .inr ⟨y,k,rfl,hy⟩⟩
 rcases hown.2 with⟨rfl,h0⟩|⟨g,cap,cur,rfl,_,hg,hnc,hcm,hcs,htake⟩
 ·have hz0:h=0:=by omega
  subst hz0
  have hr:=T8 (ac:=ac) (a:=none) (cap:=0) ht hz hB he (Int.le_refl 0) hb.1 hb.2 (by omega) w
  rw[h0]at hr
  refine⟨.slice none 0 0,w,H,_,?_,Hp.le.refl H,⟨rf,rf⟩,hw.set hi (w':=w) (r':= .row (.slice none 0 0) e c.sz 0 (xs.take (0*c.sz))) ⟨rf,rf,rf,Nat.le_refl _,fun _ _ _=>rfl⟩ ?_ ?_⟩
  ·have hr':Sem.run P (Instr.sliceAt t (.slice none 0 0) none (some (ac.eval y)) none) w= .ok (.slice none 0 0) w:=by simpa [sliced]using hr
   simp[execOp,ho,he x _ hx,hr',Result.andThen]
  ·simpa [Ao.ok]using World.ownsRow_nil w _ e c.sz
  ·intro b hb;cases hb
 ·have hr:=T8 (ac:=ac) (a:=some ⟨g,0,none⟩) (cap:=cap) ht hz hB he (Int.le_refl 0) hb.1 hb.2 hnc w
  have hv:sliced (some ⟨g,0,none⟩) (0:Int).toNat h.toNat cap c.sz= .slice (some ⟨g,0,none⟩) h.toNat cap:=by
   simp[sliced,Gx]
  rw[hv]at hr
  refine⟨_,w,H,_,?_,Hp.le.refl H,⟨rf,rf⟩,hw.set hi (w':=w) (r':= .row (.slice (some ⟨g,0,none⟩) h.toNat cap) e c.sz h.toNat (xs.take (h.toNat*c.sz))) ⟨rf,rf,rf,Nat.le_refl _,fun _ _ _=>rfl⟩ (Mm (by omega) hown) ?_⟩
  ·have hr':Sem.run P (Instr.sliceAt t (.slice (some ⟨g,0,none⟩) l.length cap) none (some (ac.eval y)) none) w= .ok (.slice (some ⟨g,0,none⟩) h.toNat cap) w:=by simpa using hr
   simp[execOp,ho,he x _ hx,hr',Result.andThen]
  ·intro b hb;exact .inl hb
end
end Go.GK
namespace Go.GK
section
variable {w : World} {H : Hp} {A B R : List Ao}
theorem SH.nB(h:SH w H (A++(B++R))):SH w H (B++(A++R)):=by
 refine h.pick (fun j=>if j<B.length then A.length+j else if j<B.length+A.length then j-B.length else j) (fun j s hs=>?_) (fun j k hj hk he=>?_)
 ·by_cases h1:j<B.length
  ·rw[if_pos h1]
   rw[List.getElem?_append_left h1]at hs
   rw[List.getElem?_append_right (by omega),Nat.add_sub_cancel_left,List.getElem?_append_left h1];exact hs
  ·rw[if_neg h1]
   rw[List.getElem?_append_right (by omega)]at hs
   by_cases h2:j<B.length+A.length
   ·rw[if_pos h2]
    rw[List.getElem?_append_left (by omega)]at hs⊢
    exact hs
   ·rw[if_neg h2]
    rw[List.getElem?_append_right (by omega)]at hs
    rw[List.getElem?_append_right (by omega),List.getElem?_append_right (by omega)]
    rw[show j-A.length-B.length=j-B.length-A.length by omega];exact hs
 ·split at he<;>split at he<;>(try split at he)<;>(try split at he)<;>omega
end
end Go.GK
namespace Go.GK
section
variable {P : Program} {T : TypeId} {E : Operand -> Option Value} {H : Hp} {O : List Ao} {x y : Operand} {Tx Ty : TypeId}
theorem Am.K5{k:IntKind}{a:BitVec 64}{e:Int}(hx:E x=some (Iv a))(hy:E y=some (.int k e))(h0:0<=e):Am P (.binOp .shl Tx x y Ty) T E H O (Iv (a<<<e.toNat)):=
 Am.tZ (n:=e.toNat) hx (by rw[hy,Int.toNat_of_nonneg h0])
theorem Am.O9{k:IntKind}{a:BitVec 64}{e:Int}(hx:E x=some (Iv a))(hy:E y=some (.int k e))(h0:0<=e):Am P (.binOp .shr Tx x y Ty) T E H O (Iv (a>>>e.toNat)):=
 Am.tY (n:=e.toNat) hx (by rw[hy,Int.toNat_of_nonneg h0])
end
end Go.GK
namespace Go.GK
open Go.RowKit Go.Deep
section
variable {H : Type} {enc : TypeId × Value -> H} {P : Program} {w : World} {base : Nat} {spare : Nat -> Bool} {held : Bool} {α β : Type}
theorem RK{c:Cd α}{Hh:Hp} :∀ {l:List (α×List Value)},(∀x∈l,c.Bm Hh x.1 x.2)->AM c Hh (l.map (·.1)) (l.flatMap (·.2))
 | [],_=>rfl
 |x::l,h=>⟨x.2,l.flatMap (·.2),rfl,h x (by simp),RK fun y hy=>h y (by simp[hy])⟩
theorem Ia{sz:Nat} :∀ {l:List (α×List Value)},(∀x∈l,x.2.length=sz)->(l.flatMap (·.2)).length=l.length*sz
 | [],_=>by simp
 |x::l,h=>by
  rw[List.flatMap_cons,List.length_append,h x (by simp),Ia fun y hy=>h y (by simp[hy]),List.length_cons,Nat.add_mul];omega
theorem LM{sz:Nat} :∀ {l:List (α×List Value)} (_:∀x∈l,x.2.length=sz) (i j:Nat) (x:α×List Value),l[i]?=some x->j<sz->(l.flatMap (·.2))[i*sz+j]?=x.2[j]?
 | [],_,i,j,x,h,_=>by simp at h
 |y::l,hl,0,j,x,h,hj=>by
  simp at h;subst h
  rw[List.flatMap_cons,Nat.zero_mul,Nat.zero_add,List.getElem?_append_left (by rw[hl y (by simp)];exact hj)]
 |y::l,hl,i+1,j,x,h,hj=>by
  rw[List.flatMap_cons,List.getElem?_append_right (by rw[hl y (by simp),Nat.add_mul];omega),hl y (by simp)]
  rw[show(i+1)*sz+j-sz=i*sz+j by rw[Nat.add_mul];omega]
  exact LM (fun z hz=>hl z (by simp[hz])) i j x (by simpa using h) hj
end
end Go.GK
namespace Go.GK
open Go.RowKit Go.Deep
section
variable {H : Type} {enc : TypeId × Value -> H} {P : Program} {w : World} {base : Nat} {spare : Nat -> Bool} {held : Bool}
theorem d_{r:Reach}{b0:Nat}{t:TypeId}{v:Value}{d:DataW H}{p:List MemPlace}(ht:P.underlying t=some .string)(hv:Value.okWide P w r b0 t v)(hd:DataW.Trod enc P w base spare held t v d p):∃l:Ax,v=sv l:=by
 obtain⟨s,rfl,_⟩:=Go.ChangeMaps.open_string ht hv hd
 exact⟨s.data.toList,rf⟩
theorem FO.of{W:World}{g:Nat}(hg:P.globalNamed "internal/strconv.uint64pow10" =some g)(h:Lib.TabIs P W "internal/strconv.uint64pow10" .u64 Lib.pow10Tab):FO P (Hp.of W):=fun w O hs=>by
 have hb:=hs.below
 have hlt:g<W.heap.size:=by
  unfold Lib.TabIs World.var? at h
  rw[hg]at h
  simp only[Option.bind_some]at h
  split at h
  ·rename_i he
   exact(Array.getElem?_eq_some_iff.1 he).1
  ·cases h
 exact Go.var?_below hb hg hlt h
end
end Go.GK
namespace Go.Proofs.YtkjngekgpgejnaaGreatDoor
open Go.GK
theorem follows:Tryz.prog.follows .mixedOrders=true:=by kernel_rfl
theorem nn:TI Tryz.prog 328 1 8 (.pointer none):=TI.of (by kernel_rfl)
theorem iB:Nb Tryz.prog 302:=⟨Tryz.f302,Tryz.func302,by kernel_rfl,rfl⟩
theorem Jt:Zk Tryz.prog 330 0 0 328:=Zk.of (k:=0) (by kernel_rfl)
end Go.Proofs.YtkjngekgpgejnaaGreatDoor
namespace Go.Proofs.YtkjngekgpgejnaaGreatDoor
open Go.GK
variable {H : Hp} {O : List Ao}
theorem oh:∃j,Tryz.prog.info? 330=some j/\j.size≠0:=by
 have h:(Tryz.prog.info? 330).map (fun j=>j.size)=some 2:=by kernel_rfl
 cases hj:Tryz.prog.info? 330 with
 |none=>rw[hj]at h;cases h
 |some j=>rw[hj]at h;simp at h;exact⟨j,rfl,by omega⟩
theorem V1{B:Nat}{v:Value} :L4 Tryz.prog 302 [ptr B 0] H (.Af B (.cells #[.pointer none,v] 330 (0,0))::O) (fun r H' O'=> .tuple #[]=r/\ .Af B (.cells #[ptr B 0,v] 330 (0,0))::O=O'):=by
 obtain⟨j,hj,hj0⟩:=oh
 intro w hs
 refine aZ Tryz.func302 rf rf rf ?_ hs
 clear hs w
 refine Wp.seq ?_
 refine Wp.region ?_
 refine Eb.op (Am.move rf) rf ?_
 refine Eb.op (Am.nilCheck rf) rf ?_
 refine Eb.op (Am.oD (o':=0) Jt rf rf) rf ?_
 refine Eb.op (Am.LA (i:=0) (v:= .pointer none) Tryz.underlying328 rf rf rf rf) rf ?_
 refine Eb.op (Am.oH Tryz.underlying328 hj rf rf) rf ?_
 refine Eb.nil ?_
 refine At.OZ ?_
 refine Wp.oL rf ?_
 refine Wp.region ?_
 refine Eb.op (Am.move rf) rf ?_
 refine Eb.op (Am.move rf) rf ?_
 refine Eb.op (Am.TT (i:=0) Tryz.underlying328 Tryz.underlying344 hj hj0 rf rf (Nat.le_of_ble_eq_true rf)) rf ?_
 refine Eb.op (Am.UE Tryz.func309 (by kernel_rfl) (by kernel_rfl) (by kernel_rfl) (by kernel_rfl) rf) rf ?_
 refine Eb.op (Am.UA (i:=0) Tryz.underlying344 Tryz.underlying328 hj rf rf (by kernel_rfl)) rf ?_
 refine Eb.op (Am.nilCheck rf) rf ?_
 refine Eb.op (Am.oD (o':=0) Jt rf rf) rf ?_
 refine Eb.ei (i:=0) rf rf rf nn rf (Nat.le_of_ble_eq_true rf) ?_
 refine Eb.nil ?_
 exact At.bh rf (fun w hs=>⟨_,_,_,rf,Hp.le.refl _,hs,rf,rf⟩)
theorem S6{B:Nat}{v:Value} :L4 Tryz.prog 302 [ptr B 0] H (.Af B (.cells #[ptr B 0,v] 330 (0,0))::O) (fun r H' O'=> .tuple #[]=r/\ .Af B (.cells #[ptr B 0,v] 330 (0,0))::O=O'):=by
 obtain⟨j,hj,hj0⟩:=oh
 intro w hs
 refine aZ Tryz.func302 rf rf rf ?_ hs
 clear hs w
 refine Wp.seq ?_
 refine Wp.region ?_
 refine Eb.op (Am.move rf) rf ?_
 refine Eb.op (Am.nilCheck rf) rf ?_
 refine Eb.op (Am.oD (o':=0) Jt rf rf) rf ?_
 refine Eb.op (Am.LA (i:=0) (v:=ptr B 0) Tryz.underlying328 rf rf rf rf) rf ?_
 refine Eb.op (Am.iv Tryz.underlying328 hj rf rf) rf ?_
 refine Eb.nil ?_
 refine At.OZ ?_
 refine Wp.dy rf ?_
 refine Wp.seq ?_
 refine Wp.region ?_
 refine Eb.op (Am.move rf) rf ?_
 refine Eb.op (Am.nilCheck rf) rf ?_
 refine Eb.op (Am.oD (o':=0) Jt rf rf) rf ?_
 refine Eb.op (Am.LA (i:=0) (v:=ptr B 0) Tryz.underlying328 rf rf rf rf) rf ?_
 refine Eb.op (Am.move rf) rf ?_
 refine Eb.op (Am.f' Tryz.underlying328 hj rf rf) rf ?_
 refine Eb.nil ?_
 refine At.OZ ?_
 refine Wp.dy rf ?_
 refine Wp.skip ?_
 exact At.bh rf (fun w hs=>⟨_,_,_,rf,Hp.le.refl _,hs,rf,rf⟩)
theorem u_{B:Nat}{a v:Value}(ha:a= .pointer none\/a=ptr B 0):L4 Tryz.prog 302 [ptr B 0] H (.Af B (.cells #[a,v] 330 (0,0))::O) (fun r H' O'=> .tuple #[]=r/\ .Af B (.cells #[ptr B 0,v] 330 (0,0))::O=O'):=by
 rcases ha with rfl|rfl
 ·exact V1
 ·exact S6
end Go.Proofs.YtkjngekgpgejnaaGreatDoor
namespace Go.Proofs
open Go.Shelf
def Tryz.Mv:Go.Shelf.Ren:=⟨fun|171=>296|243=>303|246=>310|283=>305|284=>306|285=>307|286=>308|129=>201|317=>311|318=>312|319=>313|320=>314|337=>315|338=>316|n=>n,fun|3=>3|9=>9|2=>2|4=>4|171=>340|0=>0|53=>263|37=>238|5=>5|173=>342|212=>349|51=>261|20=>20|213=>350|46=>212|232=>351|233=>352|n=>n,fun|17=>0|18=>1|19=>2|n=>n⟩
theorem Tryz.U3:Go.Proofs.LaysM.n171 Tryz.prog Tryz.Mv:= {
 mixed:=by kernel_rfl
 f129:=Tryz.func201.trans (congrArg some (by kernel_rfl))
 f171:=Tryz.func296.trans (congrArg some (by kernel_rfl))
 f243:=Tryz.func303.trans (congrArg some (by kernel_rfl))
 f246:=Tryz.func310.trans (congrArg some (by kernel_rfl))
 f283:=Tryz.func305.trans (congrArg some (by kernel_rfl))
 f284:=Tryz.func306.trans (congrArg some (by kernel_rfl))
 f285:=Tryz.func307.trans (congrArg some (by kernel_rfl))
 f286:=Tryz.func308.trans (congrArg some (by kernel_rfl))
 f317:=Tryz.func311.trans (congrArg some (by kernel_rfl))
 f318:=Tryz.func312.trans (congrArg some (by kernel_rfl))
 f319:=Tryz.func313.trans (congrArg some (by kernel_rfl))
 f320:=Tryz.func314.trans (congrArg some (by kernel_rfl))
 f337:=Tryz.func315.trans (congrArg some (by kernel_rfl))
 f338:=Tryz.func316.trans (congrArg some (by kernel_rfl))
 t0:=Tryz.underlying0
 a0:=Tryz.isAgg0
 z0:=Tryz.sizeOf0
 v0:=Tryz.zeroValue0
 t2:=Tryz.underlying2
 a2:=Tryz.isAgg2
 z2:=Tryz.sizeOf2
 v2:=Tryz.zeroValue2
 t3:=Tryz.underlying3
 a3:=Tryz.isAgg3
 z3:=Tryz.sizeOf3
 v3:=Tryz.zeroValue3
 t4:=Tryz.underlying4
 a4:=Tryz.isAgg4
 z4:=Tryz.sizeOf4
 v4:=Tryz.zeroValue4
 t5:=Tryz.underlying5
 a5:=Tryz.isAgg5
 z5:=Tryz.sizeOf5
 v5:=Tryz.zeroValue5
 t9:=Tryz.underlying9
 a9:=Tryz.isAgg9
 z9:=Tryz.sizeOf9
 v9:=Tryz.zeroValue9
 t20:=Tryz.underlying20
 a20:=Tryz.isAgg20
 z20:=Tryz.sizeOf20
 v20:=Tryz.zeroValue20
 t37:=Tryz.underlying238
 a37:=Tryz.isAgg238
 z37:=Tryz.sizeOf238
 v37:=Tryz.zeroValue238
 t46:=Tryz.underlying212
 a46:=Tryz.isAgg212
 z46:=Tryz.sizeOf212
 v46:=Tryz.zeroValue212
 t51:=Tryz.underlying261
 a51:=Tryz.isAgg261
 z51:=Tryz.sizeOf261
 v51:=Tryz.zeroValue261
 t53:=Tryz.underlying263
 a53:=Tryz.isAgg263
 z53:=Tryz.sizeOf263
 v53:=Tryz.zeroValue263
 t171:=Tryz.underlying340
 a171:=Tryz.isAgg340
 z171:=Tryz.sizeOf340
 v171:=Tryz.zeroValue340
 t173:=Tryz.underlying342
 a173:=Tryz.isAgg342
 z173:=Tryz.sizeOf342
 v173:=Tryz.zeroValue342
 t212:=Tryz.underlying349
 a212:=Tryz.isAgg349
 z212:=Tryz.sizeOf349
 v212:=Tryz.zeroValue349
 t213:=Tryz.underlying350
 a213:=Tryz.isAgg350
 z213:=Tryz.sizeOf350
 t232:=Tryz.underlying351
 a232:=Tryz.isAgg351
 z232:=Tryz.sizeOf351
 v232:=Tryz.zeroValue351
 t233:=Tryz.underlying352
 a233:=Tryz.isAgg352
 z233:=Tryz.sizeOf352
 v233:=Tryz.zeroValue352
 g17:=by kernel_rfl
 g18:=by kernel_rfl
 g19:=by kernel_rfl
 i0:=by kernel_rfl
 i2:=by kernel_rfl
 i3:=by kernel_rfl
 i4:=by kernel_rfl
 i5:=by kernel_rfl
 i9:=by kernel_rfl
 i20:=by kernel_rfl
 i37:=by kernel_rfl
 i46:=by kernel_rfl
 i51:=by kernel_rfl
 i53:=by kernel_rfl
 i171:=by kernel_rfl
 i173:=by kernel_rfl
 i212:=by kernel_rfl
 i232:=by kernel_rfl
 i233:=by kernel_rfl
 m17:=by kernel_rfl
 m18:=by kernel_rfl
 m19:=by kernel_rfl}
open Go.RowKit Go.Sort Go.Lib in
theorem Tryz.strconv_Itoa(n:Int)(h0: -9223372036854775808<=n)(h1:n<=9223372036854775807)(w:World)(htab:Lib.TabIs Tryz.prog w "internal/strconv.uint64pow10" .u64 Lib.pow10Tab):
 Calls Tryz.prog 296 #[.int .i64 n] w fun e w'=>e= .returned (.string ⟨(Lib.itoa n).toArray⟩)/\∃k os,w'=grow (w.drewN k) os:=Any.strconv_Itoa Tryz.U3 n h0 h1 w htab
def Tryz.Mu:Go.Shelf.Ren:=⟨fun|176=>241|249=>287|288=>301|283=>305|284=>306|285=>307|286=>308|129=>201|317=>311|318=>312|319=>313|320=>314|337=>315|338=>316|n=>n,fun|37=>238|2=>2|3=>3|53=>263|4=>4|9=>9|171=>340|0=>0|173=>342|212=>349|51=>261|5=>5|20=>20|213=>350|46=>212|232=>351|233=>352|n=>n,fun|17=>0|18=>1|19=>2|n=>n⟩
theorem Tryz.U2:Go.Proofs.LaysM.n176 Tryz.prog Tryz.Mu:= {
 mixed:=by kernel_rfl
 f129:=Tryz.func201.trans (congrArg some (by kernel_rfl))
 f176:=Tryz.func241.trans (congrArg some (by kernel_rfl))
 f249:=Tryz.func287.trans (congrArg some (by kernel_rfl))
 f283:=Tryz.func305.trans (congrArg some (by kernel_rfl))
 f284:=Tryz.func306.trans (congrArg some (by kernel_rfl))
 f285:=Tryz.func307.trans (congrArg some (by kernel_rfl))
 f286:=Tryz.func308.trans (congrArg some (by kernel_rfl))
 f288:=Tryz.func301.trans (congrArg some (by kernel_rfl))
 f317:=Tryz.func311.trans (congrArg some (by kernel_rfl))
 f318:=Tryz.func312.trans (congrArg some (by kernel_rfl))
 f319:=Tryz.func313.trans (congrArg some (by kernel_rfl))
 f320:=Tryz.func314.trans (congrArg some (by kernel_rfl))
 f337:=Tryz.func315.trans (congrArg some (by kernel_rfl))
 f338:=Tryz.func316.trans (congrArg some (by kernel_rfl))
 t0:=Tryz.underlying0
 a0:=Tryz.isAgg0
 z0:=Tryz.sizeOf0
 v0:=Tryz.zeroValue0
 t2:=Tryz.underlying2
 a2:=Tryz.isAgg2
 z2:=Tryz.sizeOf2
 v2:=Tryz.zeroValue2
 t3:=Tryz.underlying3
 a3:=Tryz.isAgg3
 z3:=Tryz.sizeOf3
 v3:=Tryz.zeroValue3
 t4:=Tryz.underlying4
 a4:=Tryz.isAgg4
 z4:=Tryz.sizeOf4
 v4:=Tryz.zeroValue4
 t5:=Tryz.underlying5
 a5:=Tryz.isAgg5
 z5:=Tryz.sizeOf5
 v5:=Tryz.zeroValue5
 t9:=Tryz.underlying9
 a9:=Tryz.isAgg9
 z9:=Tryz.sizeOf9
 v9:=Tryz.zeroValue9
 t20:=Tryz.underlying20
 a20:=Tryz.isAgg20
 z20:=Tryz.sizeOf20
 v20:=Tryz.zeroValue20
 t37:=Tryz.underlying238
 a37:=Tryz.isAgg238
 z37:=Tryz.sizeOf238
 v37:=Tryz.zeroValue238
 t46:=Tryz.underlying212
 a46:=Tryz.isAgg212
 z46:=Tryz.sizeOf212
 v46:=Tryz.zeroValue212
 t51:=Tryz.underlying261
 a51:=Tryz.isAgg261
 z51:=Tryz.sizeOf261
 v51:=Tryz.zeroValue261
 t53:=Tryz.underlying263
 a53:=Tryz.isAgg263
 z53:=Tryz.sizeOf263
 v53:=Tryz.zeroValue263
 t171:=Tryz.underlying340
 a171:=Tryz.isAgg340
 z171:=Tryz.sizeOf340
 v171:=Tryz.zeroValue340
 t173:=Tryz.underlying342
 a173:=Tryz.isAgg342
 z173:=Tryz.sizeOf342
 v173:=Tryz.zeroValue342
 t212:=Tryz.underlying349
 a212:=Tryz.isAgg349
 z212:=Tryz.sizeOf349
 v212:=Tryz.zeroValue349
 t213:=Tryz.underlying350
 a213:=Tryz.isAgg350
 z213:=Tryz.sizeOf350
 t232:=Tryz.underlying351
 a232:=Tryz.isAgg351
 z232:=Tryz.sizeOf351
 v232:=Tryz.zeroValue351
 t233:=Tryz.underlying352
 a233:=Tryz.isAgg352
 z233:=Tryz.sizeOf352
 v233:=Tryz.zeroValue352
 g17:=by kernel_rfl
 g18:=by kernel_rfl
 g19:=by kernel_rfl
 i0:=by kernel_rfl
 i2:=by kernel_rfl
 i3:=by kernel_rfl
 i4:=by kernel_rfl
 i5:=by kernel_rfl
 i9:=by kernel_rfl
 i20:=by kernel_rfl
 i37:=by kernel_rfl
 i46:=by kernel_rfl
 i51:=by kernel_rfl
 i53:=by kernel_rfl
 i171:=by kernel_rfl
 i173:=by kernel_rfl
 i212:=by kernel_rfl
 i232:=by kernel_rfl
 i233:=by kernel_rfl
 m17:=by kernel_rfl
 m18:=by kernel_rfl
 m19:=by kernel_rfl}
end Go.Proofs
namespace Go.GV
open Go Go.GK
def Yx:Int->Bool
 | .ofNat m=>Nat.ble m 9223372036854775807
 | .negSucc m=>Nat.ble m 9223372036854775807
theorem Vx:∀(n:Int),Yx n=true↔C6 n
 | .ofNat m=>by
  have e:Int.ofNat m=(m:Int):=rfl
  simp only[Yx,C6,Nat.ble_eq,e];omega
 | .negSucc m=>by simp only[Yx,C6,Nat.ble_eq];omega
instance(priority:=2000) decF64(n:Int):Decidable (-9223372036854775808<=n/\n<=9223372036854775807):=decidable_of_iff (Yx n=true) (Vx n)
inductive Ty where
 |int (k:IntKind)|bool|str|sl (t:Ty)|st (t:Ty)|pr (a b:Ty)|un|bs|nm (i:Nat)|ar (n:Nat) (t:Ty)
def kb:IntKind->IntKind->Bool
 | .i8, .i8| .i16, .i16| .i32, .i32| .i64, .i64| .u8, .u8| .u16, .u16| .u32, .u32| .u64, .u64=>true
 |_,_=>false
theorem LG:∀ {a b:IntKind},kb a b=true->a=b:=by intro a b;cases a<;>cases b<;>simp[kb]
def Ty.Ig:Ty->Ty->Bool
 | .int j, .int k=>kb j k
 | .bool, .bool| .str, .str| .un, .un| .bs, .bs=>true
 | .sl a, .sl b| .st a, .st b=>a.Ig b
 | .pr a b, .pr c d=>a.Ig c&&b.Ig d
 | .nm i, .nm j=>Nat.beq i j
 | .ar n a, .ar m b=>Nat.beq n m&&a.Ig b
 |_,_=>false
theorem Ty.Bc:∀ {a b:Ty},a.Ig b=true->a=b
 | .int j,b,h=>by cases b<;>simp_all [Ty.Ig];exact LG h
 | .bool,b,h=>by cases b<;>simp_all [Ty.Ig]
 | .str,b,h=>by cases b<;>simp_all [Ty.Ig]
 | .un,b,h=>by cases b<;>simp_all [Ty.Ig]
 | .bs,b,h=>by cases b<;>simp_all [Ty.Ig]
 | .nm i,b,h=>by cases b<;>simp_all [Ty.Ig]
 | .sl a,b,h=>by cases b<;>simp_all [Ty.Ig];exact Ty.Bc h
 | .st a,b,h=>by cases b<;>simp_all [Ty.Ig];exact Ty.Bc h
 | .pr a c,b,h=>by cases b<;>simp_all [Ty.Ig];exact⟨Ty.Bc h.1,Ty.Bc h.2⟩
 | .ar n a,b,h=>by cases b<;>simp_all [Ty.Ig];exact Ty.Bc h.2
theorem X_(k:IntKind):kb k k=true:=by cases k<;>rfl
theorem Ty.Oh(t:Ty):t.Ig t=true:=by
 induction t with
 |int k=>exact X_ k
 |_=>simp_all [Ty.Ig]
def Ty.den(T:Nat->Type):Ty->Type
 | .int _=>Int
 | .bool=>Bool
 | .str=>Ax
 | .sl t=>List (t.den T)
 | .st t=>t.den T
 | .pr a b=>a.den T×b.den T
 | .un=>Unit
 | .bs=>rn
 | .nm i=>T i
 | .ar _ t=>List (t.den T)
def Ty.agg:Ty->Bool
 | .st _| .bs| .nm _| .ar _ _| .pr _ _| .un=>true
 |_=>false
def DV:Ty->Bool
 | .int _| .bool| .str| .un| .bs=>true
 | .st t=>DV t
 | .pr a b=>DV a&&DV b
 |_=>false
def Rs{T:Nat->Type}{a b:Ty}(h:a.Ig b=true)(x:a.den T):b.den T:=Eq.rec (motive:=fun b _=>b.den T) x (Ty.Bc h)
def cK(k:IntKind):Cd Int where
 sz:=1
 Bm _ n cs:=cs=[.int k n]/\k.min<=n/\n<=k.max
 len h:=by rw[h.1];rfl
 mono _ h:=h
 one h:=by rw[h.1];intro u hu;simp at hu;subst hu;rfl
def iS:IntKind->Cd Int
 | .i64=>iU
 | .u8=>u4
 |k=>cK k
def cUn:Cd Unit where
 sz:=0
 Bm _ _ cs:=cs=[]
 len h:=by subst h;rfl
 mono _ h:=h
 one h:=by subst h;intro u hu;cases hu
def OA{T:Nat->Type}(cd:(i:Nat)->Cd (T i)):(t:Ty)->Cd (t.den T)
 | .int k=>iS k
 | .bool=>cB
 | .str=>cS
 | .sl t=>cL (OA cd t)
 | .st t=>OA cd t
 | .pr a b=>cP (OA cd a) (OA cd b)
 | .un=>cUn
 | .bs=>cBs
 | .nm i=>cd i
 | .ar n t=>cA n (OA cd t)
structure Cw where
 T:Nat->Type
 body:Nat->Ty
 out:(i:Nat)->T i->(body i).den T
 og:(i:Nat)->(body i).den T->T i
 size:Nat->Nat
 id:TypeId->Option Nat
 cd:(i:Nat)->Cd (T i)
 size_eq:∀i,(cd i).sz=size i
 Jh:∀i x,out i (og i x)=x
 lay:∀ {i H a cs},(cd i).Bm H a cs↔(OA cd (body i)).Bm H (out i a) cs
 prog:Option Program:=none
 inv:Hp->Prop:=fun _=>True
 BW:∀ {H H'},H.le H'->inv H->inv H':=by intros;trivial
section
variable (N : Cw)
abbrev Cw.c(t:Ty):Cd (t.den N.T):=OA N.cd t
def Ty.sz:Ty->Nat
 | .st t=>t.sz
 | .pr a b=>a.sz+b.sz
 | .un=>0
 | .bs=>4
 | .nm i=>N.size i
 | .ar n t=>n*t.sz
 |_=>1
variable {N}
theorem A5:∀t:Ty,(N.c t).sz=t.sz N
 | .int k=>by cases k<;>rfl
 | .bool=>rfl
 | .str=>rfl
 | .sl _=>rfl
 | .st t=>A5 t
 | .pr a b=>by show(N.c a).sz+(N.c b).sz=a.sz N+b.sz N;rw[A5 a,A5 b]
 | .un=>rfl
 | .bs=>rfl
 | .nm i=>N.size_eq i
 | .ar n t=>by show n*(N.c t).sz=n*t.sz N;rw[A5 t]
theorem LV{a b:Ty}(h:a.Ig b=true){H:Hp}{x:a.den N.T}{cs:List Value}(hl:(N.c a).Bm H x cs):(N.c b).Bm H (Rs h x) cs:=by
 have e:=Ty.Bc h
 subst e;exact hl
theorem AX{t:Ty}{H:Hp}{x:t.den N.T}{cs:List Value}(h:(N.c t).Bm H x cs):cs.length=t.sz N:=by rw[<-A5];exact(N.c t).len h
def PK(k:IntKind)(n:Int):Prop:=match k with
 | .i64=>True
 | .u8=>0<=n/\n<=255
 |k=>k.min<=n/\n<=k.max
theorem Db{k:IntKind}{H:Hp}{n:Int}{cs:List Value} :(iS k).Bm H n cs↔cs=[.int k n]/\PK k n:=by
 cases k<;>simp[iS,iU,u4,cK,PK]
end
end Go.GV
namespace Go.GV
open Go Go.GK
def rdH(v:Value):Option (DataW Value×List MemPlace):=some (.held v,[])
section
variable {P : Program} {kt et : TypeId} {κ : Type} [DecidableEq κ]
def M9(K:Ld P kt κ)(b:Nat)(m:List (κ×Value))(w:World):Prop:= ∃D:DataW Value,w.ownsMap P kt rdH b m.length D/\Maps.size D=m.length/\(∀k,Maps.has D (K.lit k)=(Aq m k).isSome)/\∀k x,Aq m k=some x->∀z,D.atKey (K.lit k) z= .held x
def HY(K:Ld P kt κ)(b:Nat)(m:List (κ×Value)):Ao:= .own b (M9 K b m) (fun _ ⟨_,h,_⟩=>h.lt) (fun _ _ _ ⟨D,h,h2⟩ hg hne=>⟨D,h.kept hg (fun e=>hne e.symm),h2⟩)
variable {K : Ld P kt κ} {T : TypeId} {E : Operand -> Option Value} {H : Hp} {O : List Ao} {t : TypeId}
theorem Am.Mr{x y:Operand}{b i n bytes:Nat}{m:List (κ×Value)}{k:κ}{z:Value}(ht:P.underlying t=some (.map kt et))(hz:TI P et n bytes z)(hx:E x=some (.map (some b)))(hy:E y=some (K.val k))(hk:K.ok k)(hi:O[i]?=some (HY K b m)):
  Am P (.lookup t x y false) T E H O ((Aq m k).getD z):= .Aj fun ac w o ho _ he hs=>by
 obtain⟨D,h1,h2,h3,h4⟩:M9 K b m w:=hs.ok i _ hi
 obtain⟨v,ps,hrun,hv⟩:=h1.lookup K.keyed ht hz.zeroValue (zd:= .held z) (zp:=[]) rfl (K.of k hk)
 have e:v=(Aq m k).getD z:=by
  have hv:some ((DataW.held v:DataW Value),([]:List MemPlace))=some (_,ps):=hv
  cases hg:Aq m k with
  |none=>
   have:=h3 k;rw[hg]at this
   rw[Maps.atKey_of_not_has this]at hv
   cases hv;rfl
  |some u=>rw[h4 k u hg]at hv;cases hv;rfl
 subst e
 simp[execOp,ho,he x _ hx,he y _ hy,hrun]
theorem Am.HZ{x y:Operand}{b i n bytes:Nat}{m:List (κ×Value)}{k:κ}{z:Value}(ht:P.underlying t=some (.map kt et))(hz:TI P et n bytes z)(hx:E x=some (.map (some b)))(hy:E y=some (K.val k))(hk:K.ok k)(hi:O[i]?=some (HY K b m)):
  Am P (.lookup t x y true) T E H O (.tuple #[(Aq m k).getD z, .bool (Aq m k).isSome]):= .Aj fun ac w o ho _ he hs=>by
 obtain⟨D,h1,h2,h3,h4⟩:M9 K b m w:=hs.ok i _ hi
 obtain⟨v,ps,hrun,hv⟩:=h1.look_ok K.keyed ht hz.zeroValue (zd:= .held z) (zp:=[]) rfl (K.of k hk)
 have e:v=(Aq m k).getD z:=by
  have hv:some ((DataW.held v:DataW Value),([]:List MemPlace))=some (_,ps):=hv
  cases hg:Aq m k with
  |none=>
   have:=h3 k;rw[hg]at this
   rw[Maps.atKey_of_not_has this]at hv
   cases hv;rfl
  |some u=>rw[h4 k u hg]at hv;cases hv;rfl
 subst e
 rw[h3 k]at hrun
 simp[execOp,ho,he x _ hx,he y _ hy,hrun]
theorem Am.QW{x:Operand}{b i:Nat}{m:List (κ×Value)}(ht:P.underlying t=some (.map kt et))(hx:E x=some (.map (some b)))(hi:O[i]?=some (HY K b m)):
  Am P (.call {callee:= .builtin .len,args:= #[x],argTypes:= #[t]}) T E H O (.int .i64 ((m.length:Nat):Int)):= .Aj fun ac w o ho _ he hs=>by
 obtain⟨D,h1,h2,h3,h4⟩:M9 K b m w:=hs.ok i _ hi
 have:=h1.len ht o.type
 rw[h2]at this
 simp[execOp,ho,he x _ hx,resolve,invoke,builtin,this]
theorem M9.store{w:World}{b:Nat}{m:List (κ×Value)}(h:M9 K b m w)(ht:P.underlying t=some (.map kt et)){k:κ}{v:Value}(hk:K.ok k)(hn:m.length<=Ak):
  ∃w',(Instr.mapUpdate t (.map (some b)) (K.val k) v).run P w= .ok () w'/\M9 K b (Bk m k v) w'/\w.grownBy w' (some b):=by
 obtain⟨D,h1,h2,h3,h4⟩:=h
 obtain⟨w',g1,g2,g3⟩:=h1.update K.keyed ht (by simp only[Ak,maxLen]at*;omega) (K.of k hk) (d:= .held v) (ps:=[]) rfl
 have hsz:Maps.size (D.put (K.lit k) (.held v))=(Bk m k v).length:=by
  rw[Maps.size_put (h1.tidy K.keyed),h3 k,h2,H_]
 refine⟨w',g1,⟨_,?_,hsz,fun k'=>?_,fun k' x hx z=>?_⟩,g3⟩
 ·obtain⟨es,clock,q1,q2,q3,q4⟩:=g2
  refine⟨es,clock,q1,q2,?_,q4⟩
  have:Maps.size (D.put (K.lit k) (.held v))=es.size:=by rw[q4];exact Go.length_read es
  rw[<-hsz,this];exact Nat.le_refl _
 ·rw[Ga]
  by_cases e:k'=k
  ·subst e;rw[if_pos rfl,Maps.has_put_same h1.isMap (K.key _)];rfl
  ·rw[if_neg e,Maps.has_put_other (fun x=>e (K.inj _ _ x)),h3]
 ·rw[Ga]at hx
  by_cases e:k'=k
  ·subst e;rw[if_pos rfl]at hx;injection hx with hx;subst hx
   exact Maps.atKey_put_same h1.isMap (K.key _) _ _
  ·rw[if_neg e]at hx
   rw[Maps.atKey_put_other (fun x=>e (K.inj _ _ x))]
   exact h4 k' x hx z
theorem Bl.GO{x y u:Operand}{b i:Nat}{m:List (κ×Value)}{k:κ}{v:Value}(ht:P.underlying t=some (.map kt et))(hx:E x=some (.map (some b)))(hy:E y=some (K.val k))(hu:E u=some v)(hk:K.ok k)(hn:m.length<=Ak)(hi:O[i]?=some (HY K b m)):
  Bl P (.mapUpdate t x y u) T E H O (fun _ H' O'=>H'=H/\O'=O.set i (HY K b (Bk m k v))):= .Jj fun a w o ho _ he hs=>by
 obtain⟨w',g1,g2,g3⟩:=M9.store (hs.ok i _ hi) ht hk hn
 refine⟨w',H,_,?_,Hp.le.refl H,⟨rf,rf⟩,hs.set hi g3 g2 (fun c hc=> .inl hc)⟩
 simp[execOp,ho,he x _ hx,he y _ hy,he u _ hu,g1]
theorem Bl.Mz{x y u:Operand}{b i:Nat}{m:List (κ×Value)}{k:κ}{v:Value}(ht:P.underlying t=some (.map kt et))(hx:E x=some (.map (some b)))(hy:E y=some (K.val k))(hu:E u=some v)(hk:K.ok k)(hn:m.length<=Ak)(hi:O[i]?=some (HY K b m)):
  Bl P (.insert t x y u) T E H O (fun _ H' O'=>H'=H/\O'=O.set i (HY K b (Bk m k v))):= .Jj fun a w o ho _ he hs=>by
 obtain⟨w',g1,g2,g3⟩:=M9.store (hs.ok i _ hi) ht hk hn
 refine⟨w',H,_,?_,Hp.le.refl H,⟨rf,rf⟩,hs.set hi g3 g2 (fun c hc=> .inl hc)⟩
 simp[execOp,ho,he x _ hx,he y _ hy,he u _ hu,g1]
theorem Bl.Kd(K:Ld P kt κ):Bl P (.makeMap t none) T E H O (fun v H' O'=> ∃B,v= .map (some B)/\H'=H/\O'=HY K B []::O):= .Aj fun a w o ho _ he hs=>by
 refine⟨.map (some w.heap.size),w.alloc (.map #[] 0),H,HY K w.heap.size []::O,?_,Hp.le.refl H,⟨_,rf,rf,rf⟩,hs.push (World.grownBy_alloc w _ none) ?_ (fun b hb=>by simp only[HY,Ao.has]at hb;omega)⟩
 ·simp[execOp,ho,Go.RowKit.run_makeMap]
 ·exact⟨.map [],World.ownsMap_made w P kt _,rfl,fun k=>rfl,fun k x h=>by cases h⟩
end
end Go.GV
namespace Go.GV
open Go Go.GK
def TG:Int->Nat
 | .ofNat n=>2*n
 | .negSucc n=>2*n+1
theorem QJ:∀ {a b:Int},TG a=TG b->a=b
 | .ofNat n, .ofNat m,h=>by simp only[TG]at h;congr 1;omega
 | .ofNat n, .negSucc m,h=>by simp only[TG]at h;omega
 | .negSucc n, .ofNat m,h=>by simp only[TG]at h;omega
 | .negSucc n, .negSucc m,h=>by simp only[TG]at h;congr 1;omega
def np(m n:Nat):Nat:=(m+n)*(m+n)+m
theorem di{m n m' n':Nat}(h:m+n<m'+n'):np m n<np m' n':=by
 have h1:(m+n+1)*(m+n+1)<=(m'+n')*(m'+n'):=Nat.mul_le_mul h h
 have h2:(m+n+1)*(m+n+1)=(m+n)*(m+n)+2*(m+n)+1:=by
  rw[Nat.add_mul,Nat.mul_add];omega
 unfold np
 omega
theorem fR{m n m' n':Nat}(h:np m n=np m' n'):m=m'/\n=n':=by
 rcases Nat.lt_trichotomy (m+n) (m'+n')with e|e|e
 ·have:=di e;omega
 ·unfold np at h;rw[e]at h;omega
 ·have:=di e;omega
open Classical in
noncomputable def QF(x:Int×Int):Lit:=if C6 x.1/\C6 x.2 then .string (keyBytes [.int .i64 x.1, .int .i64 x.2])else .int .u8 ((np (TG x.1) (TG x.2):Nat):Int)
def Yh:Option TypeDesc->Bool
 |some (.int .i64)=>true
 |_=>false
theorem Q6{d:Option TypeDesc}(h:Yh d=true):d=some (.int .i64):=by
 unfold Yh at h
 split at h
 ·rfl
 ·cases h
def LF(P:Program)(g:TypeId):Bool:=(Nat.blt g P.types.size&&Nat.ble (P.types.size+2) 10000)&&(P.keyType g&&match P.underlying g with
 |some (.struct ⟨[f1,f2]⟩)=>Nat.beq (P.cellsOf g) 2&&((Nat.beq f1.offset 0&&(Nat.beq (P.cellsOf f1.type) 1&&Yh (P.underlying f1.type)))&&(Nat.beq f2.offset 1&&(Nat.beq (P.cellsOf f2.type) 1&&Yh (P.underlying f2.type))))
 |_=>false)
theorem IH{P:Program}{d:Nat}{t:TypeId}{a:Int}(hu:P.underlying t=some (.int .i64))(ha:C6 a):P.keyLits (d+1) t [.int .i64 a]=some [.int .i64 a]:=by
 unfold Program.keyLits
 simp only[hu]
 rw[if_pos ⟨trivial,mY ha⟩]
theorem Ml{P:Program}{g:TypeId}(h:LF P g=true){a b:Int}(ha:C6 a)(hb:C6 b):keyOf P g (.agg #[.int .i64 a, .int .i64 b])=some (.string (keyBytes [.int .i64 a, .int .i64 b])):=by
 unfold LF at h
 simp only[Bool.and_eq_true]at h
 obtain⟨⟨h1,h2⟩,h3,h4⟩:=h
 split at h4
 ·rename_i f1 f2 hu
  simp only[Bool.and_eq_true]at h4
  obtain⟨c,⟨o1,c1,u1⟩,o2,c2,u2⟩:=h4
  have c:=Nat.eq_of_beq_eq_true c
  have o1:=Nat.eq_of_beq_eq_true o1
  have c1:=Nat.eq_of_beq_eq_true c1
  have o2:=Nat.eq_of_beq_eq_true o2
  have c2:=Nat.eq_of_beq_eq_true c2
  have u1:=Q6 u1
  have u2:=Q6 u2
  have hn:(⟨[f1,f2]⟩:Array _).all (fun f=>f.name != "_")=true:=by
   unfold Program.keyType Program.keyTypeAt at h3
   rw[hu]at h3
   simp only[Bool.and_eq_true]at h3
   have h3:=h3.1.1
   simp at h3⊢
   exact⟨h3.1.1,h3.2.1⟩
  have h1:g<P.types.size:=by simpa using h1
  obtain⟨d,hd⟩:∃d,P.types.size=d+1:=⟨P.types.size-1,(Nat.succ_pred_eq_of_pos (Nat.lt_of_le_of_lt (Nat.zero_le _) h1)).symm⟩
  have hl:P.keyLits (P.types.size+1) g [.int .i64 a, .int .i64 b]=some [.int .i64 a, .int .i64 b]:=by
   unfold Program.keyLits
   simp only[hu]
   rw[if_pos ⟨by rw[c];rfl,hn⟩]
   have e1:P.keyLits P.types.size f1.type ((([.int .i64 a, .int .i64 b]:List Value).drop f1.offset).take (P.cellsOf f1.type))=some [.int .i64 a]:=by
    rw[o1,c1,hd];exact IH u1 ha
   have e2:P.keyLits P.types.size f2.type ((([.int .i64 a, .int .i64 b]:List Value).drop f2.offset).take (P.cellsOf f2.type))=some [.int .i64 b]:=by
    rw[o2,c2,hd];exact IH u2 hb
   simp[e1,e2]
  unfold keyOf
  rw[hu]
  simp only
  have hf:(P.keyType g&&(Value.agg #[.int .i64 a, .int .i64 b]).formed P g)=true:=by
   rw[h3,Bool.true_and]
   unfold Value.formed
   rw[hu]
   simp[c]
  rw[if_pos hf]
  show(P.keyLits (P.types.size+1) g [.int .i64 a, .int .i64 b]).map _=_
  rw[hl];rfl
 ·cases h4
noncomputable def yY{P:Program}{g:TypeId}(hl:laidOutB P=true)(h:LF P g=true):Ld P g (Int×Int)where
 val x:= .agg #[.int .i64 x.1, .int .i64 x.2]
 lit:=QF
 ok x:=C6 x.1/\C6 x.2
 keyed:=by
  unfold LF at h
  simp only[Bool.and_eq_true]at h
  obtain⟨⟨h1,h2⟩,h3,h4⟩:=h
  have h1:g<P.types.size:=by simpa using h1
  have h2:P.types.size+2<=10000:=by simpa using h2
  refine Maps.Keyed.of_law (deep_law_laid hl (m:=P.types.size+1) (by omega) h1 h3 ?_)
  split at h4
  ·rename_i hu;rw[hu]
  ·cases h4
 of x hx:=by
  rw[Ml h hx.1 hx.2]
  unfold QF
  rw[if_pos hx]
 key x:=by
  unfold QF
  split<;>trivial
 inj x y e:=by
  unfold QF at e
  split at e
  ·rename_i hx
   split at e
   ·rename_i hy
    have h0:=h
    unfold LF at h0
    simp only[Bool.and_eq_true]at h0
    obtain⟨⟨h1,h2⟩,h3,h4⟩:=h0
    have h1:g<P.types.size:=by simpa using h1
    have h2:P.types.size+2<=10000:=by simpa using h2
    have kl:=deep_law_laid hl (m:=P.types.size+1) (by omega) h1 h3 (by
     split at h4
     ·rename_i hu;rw[hu]
     ·cases h4)
    have e1:=Ml h hx.1 hx.2
    rw[e]at e1
    have:=kl.inj e1 (Ml h hy.1 hy.2)
    simp at this
    exact Prod.ext this.1 this.2
   ·cases e
  ·split at e
   ·cases e
   ·injection e with _ e
    have e:np (TG x.1) (TG x.2)=np (TG y.1) (TG y.2):=by omega
    obtain⟨g1,g2⟩:=fR e
    exact Prod.ext (QJ g1) (QJ g2)
end Go.GV
namespace Go.GK
section
variable {w : World} {H : Hp} {O : List Ao} {i : Nat} {v : Value} {e e' : TypeId} {n sz : Nat} {xs : List Value} {rs : List (Option (Nat × List Value))}
def Od(e':TypeId)(sz:Nat):List Value->List (Option (Nat×List Value))->List Ao
 |u::xs,some (m,ys)::rs=> .row u e' sz m ys::Od e' sz xs rs
 |_::xs,none::rs=> .emp::Od e' sz xs rs
 |_,_=>[]
theorem MK:∀ {xs:List Value} {rs:List (Option (Nat×List Value))} {a:Nat} {r:Ao},(Od e' sz xs rs)[a]?=some r->∃u,xs[a]?=some u/\((∃m ys,rs[a]?=some (some (m,ys))/\r= .row u e' sz m ys)\/r= .emp)
 |u::xs,some (m,ys)::rs,0,r,h=>by simp[Od]at h;exact⟨u,rfl, .inl ⟨m,ys,rfl,h.symm⟩⟩
 |u::xs,some (m,ys)::rs,a+1,r,h=>by
  have:=MK (xs:=xs) (rs:=rs) (a:=a) (r:=r) (by simpa [Od]using h)
  simpa using this
 |u::xs,none::rs,0,r,h=>by simp[Od]at h;exact⟨u,rfl, .inr h.symm⟩
 |u::xs,none::rs,a+1,r,h=>by
  have:=MK (xs:=xs) (rs:=rs) (a:=a) (r:=r) (by simpa [Od]using h)
  simpa using this
 | [],_,_,_,h=>by simp[Od]at h
 |_::_,[],_,_,h=>by simp[Od]at h
theorem R5{α:Type}{O:List α}{i j:Nat}{r s:α}(h:(O.set i r)[j]?=some s):(j=i/\s=r)\/(j≠i/\O[j]?=some s):=by
 rw[List.getElem?_set]at h
 by_cases e:i=j
 ·subst e
  by_cases hl:i<O.length
  ·simp[hl]at h;exact .inl ⟨rfl,h.symm⟩
  ·simp[hl]at h
 ·simp[e]at h;exact .inr ⟨fun x=>e x.symm,h⟩
theorem S_{α:Type}{A B:List α}{j:Nat}{s:α}(h:(A++B)[j]?=some s):(j<A.length/\A[j]?=some s)\/∃a,j=A.length+a/\B[a]?=some s:=by
 by_cases hl:j<A.length
 ·rw[List.getElem?_append_left hl]at h;exact .inl ⟨hl,h⟩
 ·rw[List.getElem?_append_right (by omega)]at h;exact .inr ⟨j-A.length,by omega,h⟩
theorem SH.flat(h:SH w H O)(hi:O[i]?=some (.DB v e n xs e' sz rs)):SH w H (O.set i (.row v e 1 n xs)++Od e' sz xs rs):=by
 have F:GA w v e n xs e' sz rs:=h.ok i _ hi
 have key:∀j r,(O.set i (.row v e 1 n xs)++Od e' sz xs rs)[j]?=some r->(j≠i/\j<O.length/\O[j]?=some r)\/(j=i/\r= .row v e 1 n xs)\/∃a u,j=O.length+a/\xs[a]?=some u/\((∃m ys,rs[a]?=some (some (m,ys))/\r= .row u e' sz m ys)\/r= .emp):=fun j r hj=>by
  rcases S_ hj with⟨h1,h2⟩|⟨a,h1,h2⟩
  ·rcases R5 h2 with⟨h3,h4⟩|⟨h3,h4⟩
   ·exact .inr (.inl ⟨h3,h4⟩)
   ·exact .inl ⟨h3,by simpa using h1,h4⟩
  ·obtain⟨u,h3,h4⟩:=MK h2
   exact .inr (.inr ⟨a,u,by simpa using h1,h3,h4⟩)
 refine⟨h.K3,h.os,h.output,h.tape,fun j r hj=>?_,fun j r b hj hb=>?_,fun j k r r' b hj hk hb hb'=>?_⟩
 ·rcases key j r hj with⟨_,_,h1⟩|⟨_,rfl⟩|⟨a,u,_,h1,⟨m,ys,h2,rfl⟩|rfl⟩
  ·exact h.ok j r h1
  ·exact F.top
  ·exact F.row a u m ys h1 h2
  ·trivial
 ·rcases key j r hj with⟨_,_,h1⟩|⟨_,rfl⟩|⟨a,u,_,h1,⟨m,ys,h2,rfl⟩|rfl⟩
  ·exact h.Ii j r b h1 hb
  ·exact h.Ii i _ b hi (.inl hb)
  ·exact h.Ii i _ b hi (.inr ⟨a,u,m,ys,h1,h2,hb⟩)
  ·exact hb.elim
 ·have lft:∀ {j k:Nat} {r r':Ao},(j≠i/\j<O.length/\O[j]?=some r)->r.has b->((k=i/\r'= .row v e 1 n xs)\/∃a u,k=O.length+a/\xs[a]?=some u/\((∃m ys,rs[a]?=some (some (m,ys))/\r'= .row u e' sz m ys)\/r'= .emp))->r'.has b->False:=fun{j k r r'} h1 hb h2 hb'=>by
   rcases h2 with⟨_,rfl⟩|⟨a,u,_,h3,⟨m,ys,h4,rfl⟩|rfl⟩
   ·exact h1.1 (h.nd j i _ _ b h1.2.2 hi hb (.inl hb'))
   ·exact h1.1 (h.nd j i _ _ b h1.2.2 hi hb (.inr ⟨a,u,m,ys,h3,h4,hb'⟩))
   ·exact hb'.elim
  rcases key j r hj with h1|h1
  ·rcases key k r' hk with h2|h2
   ·exact h.nd j k r r' b h1.2.2 h2.2.2 hb hb'
   ·exact(lft h1 hb h2 hb').elim
  ·rcases key k r' hk with h2|h2
   ·exact(lft h2 hb' h1 hb).elim
   ·rcases h1 with⟨e1,rfl⟩|⟨a,u,e1,h3,⟨m,ys,h4,rfl⟩|rfl⟩
    ·rcases h2 with⟨e2,rfl⟩|⟨a2,u2,e2,h5,⟨m2,ys2,h6,rfl⟩|rfl⟩
     ·rw[e1,e2]
     ·exact absurd hb (F.out a2 u2 m2 ys2 b h5 h6 hb')
     ·exact hb'.elim
    ·rcases h2 with⟨e2,rfl⟩|⟨a2,u2,e2,h5,⟨m2,ys2,h6,rfl⟩|rfl⟩
     ·exact absurd hb' (F.out a u m ys b h3 h4 hb)
     ·rw[e1,e2,F.one a a2 u u2 m m2 ys ys2 b h3 h4 h5 h6 hb hb']
     ·exact hb'.elim
    ·exact hb.elim
end
end Go.GK
namespace Go.GV
open Go Go.GK
inductive PX(T:Nat->Type)where
 |sub (i n:Nat) (t:Ty)
 |sf
 |dx (t:Ty) (x:List (t.den T))
 |any
 |ub
 |sd (m:Nat)
 |hc (n:Nat)
 |fo (i:Nat)
 |fi (i:Nat)
 |fe (i j:Nat) (t:Ty)
inductive SV(T:Nat->Type)where
 |d (t:Ty) (x:t.den T)
 |na (n:Nat)
 |ct (i n:Nat)
 |cb (i n:Nat)
 |lt (i n m:Nat)
 |lb (b:Bool)
 |raw (v:Value)
 |ud
 |no
 |loc (k off:Nat)
 |Az (k:Nat)
 |Di (k:Nat) (i:Int) (off:Nat) (t:Ty) (x:t.den T)
 |pd (t:Ty) (x:t.den T) (off:Nat)
 |mp (k:Nat)
 |lf (s:Nat) (a l:SV T)
 |nl
 |t2 (a b:SV T)
 |t3 (a b c:SV T)
 |AA (f:Nat) (l:SV T) (cs:List Nat)
 |vn
 |vc (a l:SV T)
 |px (ks:List Nat) (p:PX T)
 |BO (j:Nat)
inductive SR(T:Nat->Type)where
 |Af (g:TypeId) (l:SV T)
 |row (g:TypeId) (t:Ty) (l:List (t.den T))
 |BO (j:Nat)
 |gone
 |map (g:TypeId) (kt vt:Ty) (l:List (kt.den T×vt.den T))
 |DB (g e:TypeId) (t:Ty) (h:Nat) (l:List (Bool×List (t.den T)))
def An{α:Type} :List (Nat×α)->Nat->Option α
 | [],_=>none
 |(k,v)::l,t=>match Nat.beq k t with
  |true=>some v
  |false=>An l t
def SV.Ay{T:Nat->Type} :SV T->List Nat
 | .loc k _| .Az k| .Di k _ _ _ _| .mp k=>[k]
 | .lf _ a l=>a.Ay++l.Ay
 | .t2 a b=>a.Ay++b.Ay
 | .t3 a b c=>a.Ay++(b.Ay++c.Ay)
 | .AA _ l cs=>l.Ay++cs
 | .vc a l=>a.Ay++l.Ay
 | .px ks _=>ks
 |_=>[]
def SR.Ay{T:Nat->Type} :SR T->List Nat
 | .Af _ l=>l.Ay
 | .DB _ _ _ h _=>[h]
 |_=>[]
abbrev JG:Nat:=9223372036854775807
section
variable {N : Cw}
def BS(t:Ty)(cs:List Value)(v:Value):Prop:=match t.agg with
 |true=>v= .agg cs.toArray
 |false=>cs=[v]
def PX.is(us:List Value)(H:Hp):PX N.T->Value->Prop
 | .sub i n t,v=> ∃a m c,us=[.slice (some a) m c]/\i+n<=m/\v= .slice (some (a.add (i*t.sz N))) n n
 | .sf,v=>v= .pointer none\/∃B,us=[ptr B 0]/\v=ptr B 0
 | .any,_=>True
 | .ub,v=> ∃b,v= .bool b
 | .sd m,v=>(∃p,v= .pointer p)/\(0<m->∃u,us=[u]/\v=AE u 0)
 | .fo i,v=> ∃a n c,us=[.slice (some a) n c]/\i<n/\v=AE (.slice (some a) n c) i
 | .fi i,v=> ∃xs u,us=[.tuple xs,u]/\xs[i]?=some v
 | .fe i j t,v=> ∃xs u x,us=[.tuple xs,u]/\xs[i]?=some x/\v=AE x (j*t.sz N)
 | .hc n,v=>n<=JG/\∃B,us=[ptr B 0]/\v= .slice (some ⟨B,0,none⟩) n n
 | .dx t x,v=>(∃a,v= .slice a x.length x.length)/\∃cs,(N.c (.sl t)).Bm H x cs/\BS (.sl t) cs v
theorem PX.mono{us:List Value}{H H':Hp}(hl:H.le H'):∀ {p:PX N.T} {v:Value},p.is us H v->p.is us H' v
 | .sub _ _ _,_,h=>h
 | .sf,_,h=>h
 | .any,_,h=>h
 | .ub,_,h=>h
 | .sd _,_,h=>h
 | .hc _,_,h=>h
 | .fo _,_,h=>h
 | .fi _,_,h=>h
 | .fe _ _ _,_,h=>h
 | .dx t x,v,⟨h0,cs,h1,h2⟩=>⟨h0,cs,(N.c (.sl t)).mono hl h1,h2⟩
def SV.Bo(g:Nat->Value->Prop)(η:Nat->Value)(H:Hp):SV N.T->Value->Prop
 | .d t x,v=> ∃cs,(N.c t).Bm H x cs/\BS t cs v
 | .na n,v=>v= .int .i64 n/\n<=JG
 | .ct _ n,v=>v= .int .i64 n/\n<=JG
 | .cb _ n,v=>v= .int .i64 n/\n<JG
 | .lt _ n m,v=>v= .bool (decide ((n:Int)<(m:Int)))/\m<=JG
 | .lb b,v=>v= .bool b
 | .raw u,v=>v=u
 | .ud,v=>v=undef
 | .no,_=>True
 | .loc k off,v=> ∃B,η k=ptr B 0/\v=ptr B off
 | .Az k,v=>v=η k/\v.oneCell'=true
 | .Di k i off t _,v=>v=AE (η k) (i.toNat*t.sz N+off)/\∃a n c,η k= .slice (some a) n c
 | .pd t x off,v=> ∃(a:Addr) (k:Nat) (cs:List Value),v= .pointer (some (a.add (k+off)))/\(N.c t).Bm H x cs/\∀j u,cs[j]?=some u->C8 H (.pointer (some (a.add (k+j)))) u
 | .mp k,v=>v=η k/\v.oneCell'=true
 | .lf s a l,v=> ∃c1 c2 u,v= .agg (c1++c2).toArray/\c1.length=s/\a.Bo g η H u/\u.cells.toList=c1/\(∀x∈c1,x.oneCell'=true)/\l.Bo g η H (.agg c2.toArray)
 | .nl,v=>v= .agg #[]
 | .t2 a b,v=> ∃x y,v= .tuple #[x,y]/\a.Bo g η H x/\b.Bo g η H y
 | .t3 a b c,v=> ∃x y z,v= .tuple #[x,y,z]/\a.Bo g η H x/\b.Bo g η H y/\c.Bo g η H z
 | .AA f l cs,v=> ∃us:List Value,v= .func (.func f) us.toArray (cs.map η).toArray/\l.Bo g η H (.tuple us.toArray)
 | .vn,v=>v= .tuple #[]
 | .vc a l,v=> ∃(u:Value) (us:List Value),v= .tuple (u::us).toArray/\a.Bo g η H u/\l.Bo g η H (.tuple us.toArray)
 | .px ks p,v=>p.is (ks.map η) H v
 | .BO j,v=>g j v
def SV.is(C:List (SV N.T))(η:Nat->Value)(H:Hp):SV N.T->Value->Prop:=SV.Bo (fun j v=> ∃s,C[j]?=some s/\SV.Bo (fun _ _=>False) η H s v) η H
theorem SV.Bo.imp{g g':Nat->Value->Prop}{η:Nat->Value}{H:Hp}(hg:∀j v,g j v->g' j v):∀ {s:SV N.T} {v:Value},s.Bo g η H v->s.Bo g' η H v
 | .d t x,v,h=>h
 | .na _,_,h=>h
 | .ct _ _,_,h=>h
 | .cb _ _,_,h=>h
 | .lt _ _ _,_,h=>h
 | .lb _,_,h=>h
 | .raw _,_,h=>h
 | .ud,_,h=>h
 | .no,_,h=>h
 | .loc _ _,_,h=>h
 | .Az _,_,h=>h
 | .Di _ _ _ _ _,_,h=>h
 | .pd t x off,v,h=>h
 | .mp _,_,h=>h
 | .lf s a l,v,⟨c1,c2,u,h1,h2,h3,h4,h5,h6⟩=>⟨c1,c2,u,h1,h2,SV.Bo.imp hg h3,h4,h5,SV.Bo.imp hg h6⟩
 | .nl,_,h=>h
 | .t2 a b,v,⟨x,y,h1,h2,h3⟩=>⟨x,y,h1,SV.Bo.imp hg h2,SV.Bo.imp hg h3⟩
 | .t3 a b c,v,⟨x,y,z,h1,h2,h3,h4⟩=>⟨x,y,z,h1,SV.Bo.imp hg h2,SV.Bo.imp hg h3,SV.Bo.imp hg h4⟩
 | .AA f l cs,v,⟨us,h1,h2⟩=>⟨us,h1,SV.Bo.imp hg h2⟩
 | .vn,_,h=>h
 | .vc a l,v,⟨u,us,h1,h2,h3⟩=>⟨u,us,h1,SV.Bo.imp hg h2,SV.Bo.imp hg h3⟩
 | .px _ _,_,h=>h
 | .BO j,v,h=>hg j v h
def Dr(vt:Ty)(H:Hp){κ:Type} :List (κ×vt.den N.T)->List (κ×Value)->Prop
 | [],[]=>True
 |p::l,q::m=>p.1=q.1/\(∃cs,(N.c vt).Bm H p.2 cs/\BS vt cs q.2)/\Dr vt H l m
 |_,_=>False
theorem Dr.mono{vt:Ty}{H H':Hp}(hl:H.le H'){κ:Type} :∀ {l:List (κ×vt.den N.T)} {m:List (κ×Value)},Dr vt H l m->Dr vt H' l m
 | [],[],h=>h
 |p::l,q::m,⟨h1,⟨cs,h2,h3⟩,h4⟩=>⟨h1,⟨cs,(N.c vt).mono hl h2,h3⟩,Dr.mono hl h4⟩
 | [],_::_,h=>h.elim
 |_::_,[],h=>h.elim
def NX(H:Hp)(B:Nat)(g:TypeId)(vt:Ty):(kt:Ty)->List (kt.den N.T×vt.den N.T)->Ao->Prop
 | .str,l,r=> ∃(P:Program) (K:Ld P g Ax) (ms:List (Ax×Value)),N.prog=some P/\(∀x,K.val x=sv x)/\(∀x,x.length<=Ak->K.ok x)/\r=HY K B ms/\Dr (κ:=Ax) vt H l ms
 | .int .i64,l,r=> ∃(P:Program) (K:Ld P g Int) (ms:List (Int×Value)),N.prog=some P/\(∀x,K.val x= .int .i64 x)/\(∀x,C6 x->K.ok x)/\r=HY K B ms/\Dr (κ:=Int) vt H l ms
 | .st (.pr (.int .i64) (.int .i64)),l,r=> ∃(P:Program) (K:Ld P g (Int×Int)) (ms:List ((Int×Int)×Value)),N.prog=some P/\(∀x,K.val x= .agg #[.int .i64 x.1, .int .i64 x.2])/\(∀x,C6 x.1/\C6 x.2->K.ok x)/\r=HY K B ms/\Dr (κ:=Int×Int) vt H l ms
 |_,_,_=>False
theorem NX.mono{H H':Hp}(hl:H.le H'){B:Nat}{g:TypeId}{vt kt:Ty}{l:List (kt.den N.T×vt.den N.T)}{r:Ao}(h:NX H B g vt kt l r):NX H' B g vt kt l r:=by
 unfold NX at h
 split at h
 ·obtain⟨P,K,ms,h1,h2,h3,h4,h5⟩:=h
  exact⟨P,K,ms,h1,h2,h3,h4,h5.mono hl⟩
 ·obtain⟨P,K,ms,h1,h2,h3,h4,h5⟩:=h
  exact⟨P,K,ms,h1,h2,h3,h4,h5.mono hl⟩
 ·obtain⟨P,K,ms,h1,h2,h3,h4,h5⟩:=h
  exact⟨P,K,ms,h1,h2,h3,h4,h5.mono hl⟩
 ·exact h.elim
structure P7{α:Type}(c:Cd α)(H:Hp)(l:List (Bool×List α))(xs:List Value)(rs:List (Option (Nat×List Value))):Prop where
 len:xs.length=l.length
 Xu:rs.length=l.length
 own:∀(i:Nat) (d:List α),l[i]?=some (true,d)->∃ys,rs[i]?=some (some (d.length,ys))/\AM c H d ys
 not:∀(i:Nat) (d:List α),l[i]?=some (false,d)->rs[i]?=some none
theorem P7.mono{α:Type}{c:Cd α}{H H':Hp}(hl:H.le H'){l:List (Bool×List α)}{xs:List Value}{rs:List (Option (Nat×List Value))}(h:P7 c H l xs rs):P7 c H' l xs rs:=
 ⟨h.len,h.Xu,fun i d hi=>by obtain⟨ys,h1,h2⟩:=h.own i d hi;exact⟨ys,h1,h2.mono hl⟩,h.not⟩
def SR.is(C:List (SV N.T))(η:Nat->Value)(H:Hp)(k:Nat):SR N.T->Ao->Prop
 | .Af g l,r=> ∃B cs,η k=ptr B 0/\r= .Af B (.cells cs g (0,0))/\l.is C η H (.agg cs)
 | .row g t l,r=> ∃xs,r= .row (η k) g (t.sz N) l.length xs/\AM (N.c t) H l xs
 | .BO _,_=>False
 | .gone,_=>False
 | .map g kt vt l,r=> ∃B,η k= .map (some B)/\NX H B g vt kt l r
 | .DB g e t h l,r=> ∃xs rs,r= .DB (η k) g l.length xs e (t.sz N) rs/\η h= .tuple xs.toArray/\P7 (N.c t) H l xs rs
theorem SV.Bo.mono{g:Nat->Value->Prop}{η:Nat->Value}{H H':Hp}(hl:H.le H'):∀ {s:SV N.T} {v:Value},s.Bo g η H v->s.Bo g η H' v
 | .d t x,v,⟨cs,h1,h2⟩=>⟨cs,(N.c t).mono hl h1,h2⟩
 | .na _,_,h=>h
 | .ct _ _,_,h=>h
 | .cb _ _,_,h=>h
 | .lt _ _ _,_,h=>h
 | .lb _,_,h=>h
 | .raw _,_,h=>h
 | .ud,_,h=>h
 | .no,_,h=>h
 | .loc _ _,_,h=>h
 | .Az _,_,h=>h
 | .Di _ _ _ _ _,_,h=>h
 | .pd t x off,v,⟨b,k,cs,h1,h2,h3⟩=>⟨b,k,cs,h1,(N.c t).mono hl h2,fun j u hj=>(h3 j u hj).mono hl⟩
 | .mp _,_,h=>h
 | .lf s a l,v,⟨c1,c2,u,h1,h2,h3,h4,h5,h6⟩=>⟨c1,c2,u,h1,h2,SV.Bo.mono hl h3,h4,h5,SV.Bo.mono hl h6⟩
 | .nl,_,h=>h
 | .t2 a b,v,⟨x,y,h1,h2,h3⟩=>⟨x,y,h1,SV.Bo.mono hl h2,SV.Bo.mono hl h3⟩
 | .t3 a b c,v,⟨x,y,z,h1,h2,h3,h4⟩=>⟨x,y,z,h1,SV.Bo.mono hl h2,SV.Bo.mono hl h3,SV.Bo.mono hl h4⟩
 | .AA f l cs,v,⟨us,h1,h2⟩=>⟨us,h1,SV.Bo.mono hl h2⟩
 | .vn,_,h=>h
 | .vc a l,v,⟨u,us,h1,h2,h3⟩=>⟨u,us,h1,SV.Bo.mono hl h2,SV.Bo.mono hl h3⟩
 | .px _ _,_,h=>PX.mono hl h
 | .BO _,_,h=>h
theorem SV.is.mono{C:List (SV N.T)}{η:Nat->Value}{H H':Hp}(hl:H.le H'){s:SV N.T}{v:Value}(h:s.is C η H v):s.is C η H' v:=SV.Bo.imp (fun _ _ ⟨s,e,h⟩=>⟨s,e,SV.Bo.mono hl h⟩) (SV.Bo.mono hl h)
theorem SV.Bo.env{g:Nat->Value->Prop}{η η':Nat->Value}{H:Hp} :∀ {s:SV N.T} {v:Value},(∀k∈s.Ay,η' k=η k)->s.Bo g η H v->s.Bo g η' H v
 | .d t x,v,_,h=>h
 | .na _,_,_,h=>h
 | .ct _ _,_,_,h=>h
 | .cb _ _,_,_,h=>h
 | .lt _ _ _,_,_,h=>h
 | .lb _,_,_,h=>h
 | .raw _,_,_,h=>h
 | .ud,_,_,h=>h
 | .no,_,_,h=>h
 | .loc k _,_,e,h=>by simp only[SV.Bo]at h⊢;rw[e k (by simp[SV.Ay])];exact h
 | .Az k,_,e,h=>by simp only[SV.Bo]at h⊢;rw[e k (by simp[SV.Ay])];exact h
 | .Di k _ _ _ _,_,e,h=>by simp only[SV.Bo]at h⊢;rw[e k (by simp[SV.Ay])];exact h
 | .pd t x off,v,_,h=>h
 | .mp k,_,e,h=>by simp only[SV.Bo]at h⊢;rw[e k (by simp[SV.Ay])];exact h
 | .lf s a l,v,e,⟨c1,c2,u,h1,h2,h3,h4,h5,h6⟩=>⟨c1,c2,u,h1,h2,SV.Bo.env (fun k hk=>e k (by simp[SV.Ay,hk])) h3,h4,h5,SV.Bo.env (fun k hk=>e k (by simp[SV.Ay,hk])) h6⟩
 | .nl,_,_,h=>h
 | .t2 a b,v,e,⟨x,y,h1,h2,h3⟩=>⟨x,y,h1,SV.Bo.env (fun k hk=>e k (by simp[SV.Ay,hk])) h2,SV.Bo.env (fun k hk=>e k (by simp[SV.Ay,hk])) h3⟩
 | .t3 a b c,v,e,⟨x,y,z,h1,h2,h3,h4⟩=>⟨x,y,z,h1,SV.Bo.env (fun k hk=>e k (by simp[SV.Ay,hk])) h2,SV.Bo.env (fun k hk=>e k (by simp[SV.Ay,hk])) h3,SV.Bo.env (fun k hk=>e k (by simp[SV.Ay,hk])) h4⟩
 | .AA f l cs,v,e,⟨us,h1,h2⟩=>⟨us,by rw[h1];congr 2;exact List.map_congr_left fun k hk=>(e k (by simp[SV.Ay,hk])).symm,SV.Bo.env (fun k hk=>e k (by simp[SV.Ay,hk])) h2⟩
 | .vn,_,_,h=>h
 | .vc a l,v,e,⟨u,us,h1,h2,h3⟩=>⟨u,us,h1,SV.Bo.env (fun k hk=>e k (by simp[SV.Ay,hk])) h2,SV.Bo.env (fun k hk=>e k (by simp[SV.Ay,hk])) h3⟩
 | .px ks p,v,e,h=>by
  have e':ks.map η'=ks.map η:=List.map_congr_left fun k hk=>e k (by simp[SV.Ay,hk])
  show p.is (ks.map η') H v
  rw[e'];exact h
 | .BO _,_,_,h=>h
def Co{T:Nat->Type}(C:List (SV T)):List Nat:=C.flatMap SV.Ay
theorem Sn{T:Nat->Type}{C:List (SV T)}{j k:Nat}{s:SV T}(hc:C[j]?=some s)(h:k∈s.Ay):k∈Co C:=List.mem_flatMap.2 ⟨s,List.mem_of_getElem? hc,h⟩
theorem SV.is.env{C:List (SV N.T)}{η η':Nat->Value}{H:Hp}{s:SV N.T}{v:Value}(hc:∀k∈Co C,η' k=η k)(hs:∀k∈s.Ay,η' k=η k)(h:s.is C η H v):s.is C η' H v:=
 SV.Bo.imp (fun _ _ ⟨s,e,h⟩=>⟨s,e,SV.Bo.env (fun k hk=>hc k (Sn e hk)) h⟩) (SV.Bo.env hs h)
theorem SR.is.mono{C:List (SV N.T)}{η:Nat->Value}{H H':Hp}(hl:H.le H'){k:Nat}{s:SR N.T}{r:Ao}(h:s.is C η H k r):s.is C η H' k r:=by
 cases s with
 |Af g l=>obtain⟨B,cs,h1,h2,h3⟩:=h;exact⟨B,cs,h1,h2,h3.mono hl⟩
 |row g t l=>obtain⟨xs,h1,h2⟩:=h;exact⟨xs,h1,h2.mono hl⟩
 |BO j=>exact h
 |gone=>exact h
 |map g kt vt l=>obtain⟨B,h1,h2⟩:=h;exact⟨B,h1,h2.mono hl⟩
 |DB g e t hh l=>obtain⟨xs,rs,h1,h2,h3⟩:=h;exact⟨xs,rs,h1,h2,h3.mono hl⟩
theorem SR.is.env{C:List (SV N.T)}{η η':Nat->Value}{H:Hp}{k:Nat}{s:SR N.T}{r:Ao}(e0:η' k=η k)(hc:∀k∈Co C,η' k=η k)(e:∀k∈s.Ay,η' k=η k)(h:s.is C η H k r):s.is C η' H k r:=by
 cases s with
 |Af g l=>obtain⟨B,cs,h1,h2,h3⟩:=h;exact⟨B,cs,e0.trans h1,h2,h3.env hc e⟩
 |row g t l=>obtain⟨xs,h1,h2⟩:=h;exact⟨xs,by rw[e0];exact h1,h2⟩
 |BO j=>exact h
 |gone=>exact h
 |map g kt vt l=>obtain⟨B,h1,h2⟩:=h;exact⟨B,e0.trans h1,h2⟩
 |DB g e' t hh l=>obtain⟨xs,rs,h1,h2,h3⟩:=h;exact⟨xs,rs,by rw[e0];exact h1,(e hh (by simp[SR.Ay])).trans h2,h3⟩
structure St(T:Nat->Type)where
 L:List (Nat×SV T)
 O:List (Nat×SR T)
 nk:Nat
structure A_(T:Nat->Type)where
 sv:SV T
 rd:List Nat
 wr:List (Nat×SR T)
def res{T:Nat->Type}(C:List (SV T)):SV T->SV T
 | .BO j=>C.getD j .no
 |s=>s
def Bx{T:Nat->Type}(C:List (SV T))(L:List (Nat×SV T))(t:Nat):SV T:=match An L t with
 |some s=>res C s
 |none=> .no
def ofConst{T:Nat->Type} :Value->SV T
 | .bool b=> .lb b
 |v=> .raw v
def Ap{T:Nat->Type}(S:Nat->SV T):Operand->SV T
 | .tmp t=>S t
 | .const v=>ofConst v
 | .global _=> .no
 | .func f=> .AA f .vn []
theorem Pr{C:List (SV N.T)}{η:Nat->Value}{H:Hp}(v:Value):(ofConst (T:=N.T) v).is C η H v:=by
 unfold ofConst;split<;>simp[SV.is,SV.Bo]
theorem DN{C:List (SV N.T)}{η:Nat->Value}{H:Hp}{s:SV N.T}{v:Value}(h:s.is C η H v):(res C s).is C η H v:=by
 unfold res
 split
 ·obtain⟨s,e,h⟩:=h
  rw[List.getD_eq_getElem?_getD,e]
  exact SV.Bo.imp (fun _ _ h=>h.elim) h
 ·exact h
theorem Vy{C:List (SV N.T)}{S:Nat->SV N.T}{η:Nat->Value}{H:Hp}{a:Act}{x:Operand}(h:∀t,x= .tmp t->(S t).is C η H (a.tmps.getD t undef)):(Ap S x).is C η H (a.eval x):=by
 cases x with
 |tmp t=>exact h t rfl
 |const v=>exact Pr v
 |global g=>trivial
 |func f=>exact⟨[],rfl,rfl⟩
end
def keys{α:Type}(Y:List (Nat×α)):List Nat:=Y.map (·.1)
theorem AQ{α:Type}{Y:List (Nat×α)}{k:Nat}{x:α}(h:An Y k=some x):(k,x)∈Y:=by
 induction Y with
 |nil=>cases h
 |cons p Y ih=>
  obtain⟨q,y⟩:=p
  simp only[An]at h
  split at h
  ·rename_i hb;have:=Nat.eq_of_beq_eq_true hb;subst this;cases h;simp
  ·exact List.mem_cons_of_mem _ (ih h)
theorem BV{α:Type}{Y:List (Nat×α)}{k:Nat}(h:k∉keys Y):An Y k=none:=by
 cases hl:An Y k with
 |none=>rfl
 |some x=>exact absurd (List.mem_map.2 ⟨_,AQ hl,rfl⟩) h
theorem Ce{α:Type}{Y:List (Nat×α)}{k:Nat}{x:α}(h:An Y k=some x):k∈keys Y:=List.mem_map.2 ⟨_,AQ h,rfl⟩
theorem CI{α:Type}{Y:List (Nat×α)}{k:Nat}(h:k∈keys Y):∃x,An Y k=some x:=by
 induction Y with
 |nil=>cases h
 |cons p Y ih=>
  obtain⟨q,y⟩:=p
  simp only[keys,List.map_cons,List.mem_cons]at h
  simp only[An]
  cases hb:Nat.beq q k with
  |true=>exact⟨y,rfl⟩
  |false=>
   rcases h with e|h
   ·subst e;simp at hb
   ·exact ih h
theorem Cc{α:Type}{Y:List (Nat×α)}(hn:(keys Y).Nodup){k:Nat}{x:α}(h:(k,x)∈Y):An Y k=some x:=by
 induction Y with
 |nil=>cases h
 |cons p Y ih=>
  obtain⟨q,y⟩:=p
  simp only[keys,List.map_cons,List.nodup_cons]at hn
  simp only[An]
  rcases List.mem_cons.1 h with e|h
  ·cases e;simp
  ·have hne:q≠k:=fun e=>hn.1 (by subst e;exact List.mem_map.2 ⟨_,h,rfl⟩)
   have:Nat.beq q k=false:=by
    cases hb:Nat.beq q k with
    |false=>rfl
    |true=>exact absurd (Nat.eq_of_beq_eq_true hb) hne
   rw[this];exact ih hn.2 h
theorem Bq{α:Type}(A B:List (Nat×α))(k:Nat):An (A++B) k=match An A k with|some x=>some x|none=>An B k:=by
 induction A with
 |nil=>rfl
 |cons p A ih=>
  obtain⟨q,y⟩:=p
  simp only[List.cons_append,An]
  split
  ·rfl
  ·exact ih
theorem Dj{α:Type}(k:Nat)(v:α)(l:List (Nat×α)):An ((k,v)::l) k=some v:=by simp[An]
theorem AR{α:Type}{q k:Nat}(h:q≠k)(v:α)(l:List (Nat×α)):An ((q,v)::l) k=An l k:=by
 have:Nat.beq q k=false:=by
  cases hb:Nat.beq q k with
  |false=>rfl
  |true=>exact absurd (Nat.eq_of_beq_eq_true hb) h
 simp only[An,this]
end Go.GV
namespace Go.GV
open Go Go.GK
def Gj(Y:List (Nat×Ao))(k:Nat)(r:Ao):List (Nat×Ao):=Y.map fun p=>(p.1,match Nat.beq p.1 k with|true=>r|false=>p.2)
theorem DJ(Y:List (Nat×Ao))(k:Nat)(r:Ao):keys (Gj Y k r)=keys Y:=by
 unfold keys Gj;rw[List.map_map];rfl
theorem Nn{Y:List (Nat×Ao)}{k:Nat}{r x:Ao}(h:An Y k=some x):An (Gj Y k r) k=some r:=by
 induction Y with
 |nil=>cases h
 |cons p Y ih=>
  obtain⟨q,y⟩:=p
  simp only[Gj,List.map_cons,An]at h⊢
  cases hb:Nat.beq q k with
  |true=>rfl
  |false=>rw[hb]at h;exact ih h
theorem L9{Y:List (Nat×Ao)}{k j:Nat}{r:Ao}(h:j≠k):An (Gj Y k r) j=An Y j:=by
 induction Y with
 |nil=>rfl
 |cons p Y ih=>
  obtain⟨q,y⟩:=p
  simp only[Gj,List.map_cons,An]at ih⊢
  cases hb:Nat.beq q j with
  |true=>
   have:=Nat.eq_of_beq_eq_true hb
   subst this
   have:Nat.beq q k=false:=by
    cases hb:Nat.beq q k with
    |false=>rfl
    |true=>exact absurd (Nat.eq_of_beq_eq_true hb) h
   rw[this]
  |false=>exact ih
theorem GJ{Y:List (Nat×Ao)}(Of:List Ao){k:Nat}{x:Ao}(hn:(keys Y).Nodup)(h:An Y k=some x):∃i,(Y.map (·.2)++Of)[i]?=some x/\∀r,(Y.map (·.2)++Of).set i r=(Gj Y k r).map (·.2)++Of:=by
 induction Y with
 |nil=>cases h
 |cons p Y ih=>
  obtain⟨q,y⟩:=p
  simp only[An]at h
  simp only[keys,List.map_cons,List.nodup_cons]at hn
  cases hb:Nat.beq q k with
  |true=>
   rw[hb]at h;cases h
   have:=Nat.eq_of_beq_eq_true hb;subst this
   refine⟨0,rf,fun r=>?_⟩
   simp only[List.map_cons,List.cons_append,List.set_cons_zero,Gj,Nat.beq_refl]
   congr 2
   rw[List.map_map]
   refine List.map_congr_left fun p hp=>?_
   have:Nat.beq p.1 q=false:=by
    cases hb:Nat.beq p.1 q with
    |false=>rfl
    |true=>exact absurd (List.mem_map.2 ⟨p,hp,Nat.eq_of_beq_eq_true hb⟩) hn.1
   simp[this]
  |false=>
   rw[hb]at h
   obtain⟨i,h1,h2⟩:=ih hn.2 h
   refine⟨i+1,by simpa using h1,fun r=>?_⟩
   simp only[List.map_cons,List.cons_append,List.set_cons_succ,h2 r,Gj,hb]
section
variable {N : Cw} {C : List (SV N.T)}
def C4(C:List (SV N.T))(η:Nat->Value)(H:Hp)(Y:List (Nat×Ao))(k:Nat)(sr:SR N.T):Prop:=sr= .gone\/∃x,An Y k=some x/\sr.is C η H k x
def Al(P:Program)(C:List (SV N.T))(S:Nat->SV N.T)(R:Nat->Option (SR N.T))(o:Oper)(s:A_ N.T):Prop:= ∀(η:Nat->Value) (H:Hp) (Of:List Ao) (a:Act) (w:World) (Y:List (Nat×Ao)),(keys Y).Nodup->SH w H (Y.map (·.2)++Of)->N.inv H->(∀x∈o.op.operands,(Ap S x).is C η H (a.eval x))->(∀k,(k∈s.rd\/k∈keys s.wr)->∀sr,R k=some sr->C4 C η H Y k sr)->(∀k∈keys s.wr,R k=none->k∉keys Y)->∀(K:Act->World->Prop) (Q:Exit->Act->World->Prop),(∀(v:Value) (w':World) (H':Hp) (η':Nat->Value) (Y':List (Nat×Ao)),H.le H'->(∀k,(R k=none->k∉keys s.wr)->η' k=η k)->(∀k,k∉keys s.wr->An Y' k=An Y k)->(∀k sr,An s.wr k=some sr->C4 C η' H' Y' k sr)->(keys Y').Nodup->(∀k∈keys Y',k∈keys Y\/k∈keys s.wr)->SH w' H' (Y'.map (·.2)++Of)->s.sv.is C η' H' v->K (a.put o.dst v) w')->o.wp P a w K Q
abbrev EV(a:Act):Operand->Option Value:=fun x=>some (a.eval x)
theorem Al.Cy{P:Program}{S:Nat->SV N.T}{R:Nat->Option (SR N.T)}{o:Oper}{sv:SV N.T}{rd:List Nat}
  (h:∀(η:Nat->Value) (H:Hp) (O:List Ao) (a:Act),(∀x∈o.op.operands,(Ap S x).is C η H (a.eval x))->(∀k∈rd,∀sr,R k=some sr->sr= .gone\/∃(x:Ao) (i:Nat),O[i]?=some x/\sr.is C η H k x)->∃v,Am P o.op o.type (EV a) H O v/\sv.is C η H v):
  Al P C S R o ⟨sv,rd,[]⟩:=by
 intro η H Of a w Y hn hs hi hx hr _ K Q hK
 obtain⟨v,h1,h2⟩:=h η H (Y.map (·.2)++Of) a hx fun k hk sr hsr=>(hr k (.inl hk) sr hsr).imp id fun⟨x,g1,g2⟩=>by
  obtain⟨i,g3,_⟩:=GJ Of hn g1
  exact⟨x,i,g3,g2⟩
 refine Oper.Bt (h1 a w o rf rf (fun x u e=>by simpa using e) hs) hs fun w' hw'=>?_
 exact hK v w' H η Y (Hp.le.refl H) (fun _ _=>rfl) (fun _ _=>rfl) (fun k sr h=>by cases h) hn (fun k hk=> .inl hk) hw' h2
theorem Al.J9{P:Program}{S:Nat->SV N.T}{R:Nat->Option (SR N.T)}{o:Oper}{sv:SV N.T}{rd:List Nat}{k:Nat}{s0 s1:SR N.T}(hk:R k=some s0)(h0:s0≠ .gone)
  (h:∀(η:Nat->Value) (H:Hp) (O:List Ao) (a:Act) (x:Ao) (i:Nat),(∀x∈o.op.operands,(Ap S x).is C η H (a.eval x))->O[i]?=some x->s0.is C η H k x->(∀k∈rd,∀sr,R k=some sr->sr= .gone\/∃(x:Ao) (i:Nat),O[i]?=some x/\sr.is C η H k x)->
   ∃x',s1.is C η H k x'/\Bl P o.op o.type (EV a) H O (fun v H' O'=>H'=H/\O'=O.set i x'/\sv.is C η H v)):
  Al P C S R o ⟨sv,rd,[(k,s1)]⟩:=by
 intro η H Of a w Y hn hs hi hx hr _ K Q hK
 rcases hr k (.inr (by simp[keys])) s0 hk with e|⟨x,g1,g2⟩
 ·exact absurd e h0
 obtain⟨i,g3,g4⟩:=GJ Of hn g1
 obtain⟨x',k1,k2⟩:=h η H (Y.map (·.2)++Of) a x i hx g3 g2 fun j hj sr hsr=>(hr j (.inl hj) sr hsr).imp id fun⟨x,q1,q2⟩=>by
  obtain⟨i,q3,_⟩:=GJ Of hn q1
  exact⟨x,i,q3,q2⟩
 refine k2 a w o K Q rf rf (fun x u e=>by simpa using e) hs fun v w' H' O' hle ⟨e1,e2,e3⟩ hw'=>?_
 subst e1;subst e2
 rw[g4]at hw'
 refine hK v w' H' η (Gj Y k x') (Hp.le.refl _) (fun _ _=>rfl) (fun j hj=>L9 fun e=>hj (by subst e;simp[keys])) (fun j sr hj=>?_) (by rw[DJ];exact hn) (fun j hj=> .inl (by rw[DJ]at hj;exact hj)) hw' e3
 simp only[An]at hj
 split at hj
 ·rename_i hb
  have:=Nat.eq_of_beq_eq_true hb;subst this;cases hj
  exact .inr ⟨x',Nn g1,k1⟩
 ·cases hj
def DF(η:Nat->Value)(k:Nat)(v:Value):Nat->Value:=fun j=>match Nat.beq j k with
 |true=>v
 |false=>η j
theorem Ar(η:Nat->Value)(k:Nat)(v:Value):DF η k v k=v:=by simp[DF]
theorem E4{η:Nat->Value}{k j:Nat}{v:Value}(h:j≠k):DF η k v j=η j:=by
 unfold DF
 cases hb:Nat.beq j k with
 |true=>exact absurd (Nat.eq_of_beq_eq_true hb) h
 |false=>rfl
theorem Al.E7{P:Program}{S:Nat->SV N.T}{R:Nat->Option (SR N.T)}{o:Oper}{sv:SV N.T}{rd:List Nat}{k:Nat}{s1:SR N.T}(hk:R k=none)
  (h:∀(η:Nat->Value) (H:Hp) (O:List Ao) (a:Act),(∀x∈o.op.operands,(Ap S x).is C η H (a.eval x))->(∀k∈rd,∀sr,R k=some sr->sr= .gone\/∃(x:Ao) (i:Nat),O[i]?=some x/\sr.is C η H k x)->
   Bl P o.op o.type (EV a) H O (fun v H' O'=>H'=H/\∃x' b,O'=x'::O/\s1.is C (DF η k b) H k x'/\sv.is C (DF η k b) H v)):
  Al P C S R o ⟨sv,rd,[(k,s1)]⟩:=by
 intro η H Of a w Y hn hs hi hx hr hfresh K Q hK
 have hkY:=hfresh k (by simp[keys]) hk
 refine h η H (Y.map (·.2)++Of) a hx (fun j hj sr hsr=>(hr j (.inl hj) sr hsr).imp id fun⟨x,q1,q2⟩=>by
  obtain⟨i,q3,_⟩:=GJ Of hn q1
  exact⟨x,i,q3,q2⟩) a w o K Q rf rf (fun x u e=>by simpa using e) hs fun v w' H' O' hle ⟨e1,x',b,e2,e3,e4⟩ hw'=>?_
 subst e1;subst e2
 refine hK v w' H' (DF η k b) ((k,x')::Y) (Hp.le.refl _) (fun j hj=>E4 fun e=>?_) (fun j hj=>AR (fun e=>hj (by subst e;simp[keys])) _ _) (fun j sr hj=>?_) (List.nodup_cons.2 ⟨hkY,hn⟩) (fun j hj=>?_) hw' e4
 ·subst e;exact hj hk (by simp[keys])
 ·simp only[An]at hj
  split at hj
  ·rename_i hb
   have:=Nat.eq_of_beq_eq_true hb;subst this;cases hj
   exact .inr ⟨x',Dj _ _ _,e3⟩
  ·cases hj
 ·simp only[keys,List.map_cons,List.mem_cons]at hj⊢
  rcases hj with e|hj
  ·exact .inr (.inl e)
  ·exact .inl hj
end
end Go.GV
namespace Go.GV
open Go Go.GK
def OU(P:Program)(t:TypeId)(n:Nat):Bool:=match P.info? t with
 |some i=>Nat.beq i.size n&&i.zero.isSome
 |none=>false
theorem Du{P:Program}{t:TypeId}{n:Nat}(h:OU P t n=true):∃bytes z,TI P t n bytes z:=by
 unfold OU at h
 split at h
 ·rename_i i hi
  simp only[Bool.and_eq_true]at h
  obtain⟨z,hz⟩:=Option.isSome_iff_exists.1 h.2
  exact⟨i.bytes,z,i,hi,Nat.eq_of_beq_eq_true h.1,rf,hz⟩
 ·cases h
def ic(k:IntKind)(n:Int):Bool:=match k with
 | .i64=>true
 | .u8=>decide (0<=n)&&decide (n<=255)
 |k=>decide (k.min<=n)&&decide (n<=k.max)
theorem Vt{k:IntKind}{n:Int}(h:ic k n=true):PK k n:=by
 cases k<;>simp_all [ic,PK]
def TK:List Value->Bool
 | .int .u64 a:: .int .u64 b:: .int .u64 c:: .int .u64 d::_=>decide (a=0)&&decide (b=0)&&decide (c=0)&&decide (d=0)
 |_=>false
def LP(T:Nat->Type)(a b:Ty):Option (a.den T->b.den T):=if h:a.Ig b=true then some (Rs h)else none
theorem Bg{T:Nat->Type}{a b:Ty}{f:a.den T->b.den T}(h:LP T a b=some f):∃h:a.Ig b=true,f=Rs h:=by
 unfold LP at h
 split at h
 ·rename_i h';cases h;exact⟨h',rfl⟩
 ·cases h
def rep{α:Type}(p:List Value->Option (α×List Value)):Nat->List Value->Option (List α×List Value)
 |0,cs=>some ([],cs)
 |n+1,cs=>match p cs with
  |some (x,r)=>match rep p n r with
   |some (l,r)=>some (x::l,r)
   |none=>none
  |none=>none
section
variable (N : Cw)
def parse:Nat->(t:Ty)->List Value->Option (t.den N.T×List Value)
 |0,_,_=>none
 |fu+1,t,cs=>match t with
  | .int k=>match cs with
   | .int k' n::r=>match kb k k'&&ic k n with
    |true=>some (n,r)
    |false=>none
   |_=>none
  | .bool=>match cs with
   | .bool b::r=>some (b,r)
   |_=>none
  | .str=>match cs with
   | .string s::r=>some (s.data.toList,r)
   |_=>none
  | .sl _=>match cs with
   | .slice none 0 0::r=>some ([],r)
   |_=>none
  | .st a=>parse fu a cs
  | .pr a b=>match parse fu a cs with
   |some (x,r)=>match parse fu b r with
    |some (y,r)=>some ((x,y),r)
    |none=>none
   |none=>none
  | .un=>some ((),cs)
  | .bs=>match TK cs with
   |true=>some (fun _=>false,cs.drop 4)
   |false=>none
  | .nm i=>match parse fu (N.body i) cs with
   |some (x,r)=>some (N.og i x,r)
   |none=>none
  | .ar n a=>rep (parse fu a) n cs
def Ec:Nat->(t:Ty)->t.den N.T->Nat->(ty:Ty)->Option (ty.den N.T)
 |0,_,_,_,_=>none
 |fu+1,t,x,off,ty=>
  match LP N.T t ty with
  |some f=>(match Nat.beq off 0 with
   |true=>some (f x)
   |false=>none)
  |none=>match t,x with
   | .st a,x=>Ec fu a x off ty
   | .pr a b,x=>match Nat.blt off (a.sz N)with
    |true=>Ec fu a x.1 off ty
    |false=>Ec fu b x.2 (off-a.sz N) ty
   | .nm i,x=>Ec fu (N.body i) (N.out i x) off ty
   | .ar _ a,x=>match(show List (a.den N.T)from x)[off/a.sz N]? with
    |some y=>Ec fu a y (off %a.sz N) ty
    |none=>none
   |_,_=>none
def setAt:Nat->(t:Ty)->t.den N.T->Nat->(ty:Ty)->ty.den N.T->Option (t.den N.T)
 |0,_,_,_,_,_=>none
 |fu+1,t,x,off,ty,y=>
  match LP N.T ty t with
  |some f=>(match Nat.beq off 0 with
   |true=>some (f y)
   |false=>none)
  |none=>match t,x with
   | .st a,x=>setAt fu a x off ty y
   | .pr a b,x=>match Nat.blt off (a.sz N)with
    |true=>(setAt fu a x.1 off ty y).map fun z=>(z,x.2)
    |false=>(setAt fu b x.2 (off-a.sz N) ty y).map fun z=>(x.1,z)
   | .nm i,x=>(setAt fu (N.body i) (N.out i x) off ty y).map (N.og i)
   | .ar _ a,x=>match(show List (a.den N.T)from x)[off/a.sz N]? with
    |some z=>(setAt fu a z (off %a.sz N) ty y).map fun z=>List.set (show List (a.den N.T)from x) (off/a.sz N) z
    |none=>none
   |_,_=>none
def V6:(t:Ty)->SV N.T->Option (t.den N.T)
 |t, .d t' x=>(LP N.T t' t).map (· x)
 | .int .i64, .na n=>some (n:Int)
 | .int .i64, .ct _ n=>some (n:Int)
 | .int .i64, .cb _ n=>some (n:Int)
 | .bool, .lb b=>some b
 | .bool, .lt _ n m=>some (decide ((n:Int)<(m:Int)))
 |t, .px _ (.dx t' l)=>(LP N.T (.sl t') t).map fun f=>f l
 |t, .raw v=>match parse N 16 t v.cells.toList with
  |some (x,[])=>(match t.agg,v with
   |true, .agg _=>some x
   |true,_=>none
   |false, .agg _=>none
   |false,_=>some x)
  |_=>none
 |_,_=>none
variable {N}
theorem TJ{cs:List Value}(h:TK cs=true):cs=(KL (fun _=>false)).toList++cs.drop 4:=by
 unfold TK at h
 split at h
 ·simp only[Bool.and_eq_true,decide_eq_true_eq]at h
  obtain⟨⟨⟨rfl,rfl⟩,rfl⟩,rfl⟩:=h
  rename_i r
  have hw:∀i,word (fun _=>false) i=0#64:=fun i=>by
   apply BitVec.eq_of_getLsbD_eq
   intro j hj
   rw[Fk];simp
  have:(KL (fun _=>false)).toList=[Iv (word (fun _=>false) 0),Iv (word (fun _=>false) 1),Iv (word (fun _=>false) 2),Iv (word (fun _=>false) 3)]:=rfl
  rw[this,hw,hw,hw,hw];rfl
 ·cases h
theorem B_{H:Hp} :∀ {fu:Nat} {t:Ty} {cs r:List Value} {x:t.den N.T},parse N fu t cs=some (x,r)->∃pre,cs=pre++r/\(N.c t).Bm H x pre
 |0,_,_,_,_,h=>by cases h
 |fu+1, .int k,cs,r,x,h=>by
  simp only[parse]at h
  split at h
  ·split at h
   ·rename_i hb
    simp only[Bool.and_eq_true]at hb
    cases h
    have:=LG hb.1;subst this
    exact⟨[_],rf,Db.2 ⟨rf,Vt hb.2⟩⟩
   ·cases h
  ·cases h
 |fu+1, .bool,cs,r,x,h=>by
  simp only[parse]at h
  split at h
  ·cases h;exact⟨[_],rfl,rfl⟩
  ·cases h
 |fu+1, .str,cs,r,x,h=>by
  simp only[parse]at h
  split at h
  ·cases h;exact⟨[_],rfl,rfl⟩
  ·cases h
 |fu+1, .sl _,cs,r,x,h=>by
  simp only[parse]at h
  split at h
  ·cases h;exact⟨[_],rfl,_,rfl,Fa.nil⟩
  ·cases h
 |fu+1, .st a,cs,r,x,h=>B_ (fu:=fu) (t:=a) (by simp only[parse]at h;exact h)
 |fu+1, .pr a b,cs,r,x,h=>by
  simp only[parse]at h
  split at h
  ·rename_i y r' h1
   split at h
   ·rename_i z r'' h2
    cases h
    obtain⟨p,rfl,e1⟩:=B_ (H:=H) h1
    obtain⟨q,rfl,e2⟩:=B_ (H:=H) h2
    exact⟨p++q,by simp,p,q,rf,e1,e2⟩
   ·cases h
  ·cases h
 |fu+1, .un,cs,r,x,h=>by simp only[parse]at h;cases h;exact⟨[],rfl,rfl⟩
 |fu+1, .bs,cs,r,x,h=>by
  simp only[parse]at h
  split at h
  ·rename_i hz;cases h;exact⟨_,TJ hz,rfl⟩
  ·cases h
 |fu+1, .nm i,cs,r,x,h=>by
  simp only[parse]at h
  split at h
  ·rename_i y r' h1
   cases h
   obtain⟨p,e,e1⟩:=B_ (H:=H) h1
   exact⟨p,e,N.lay.2 (by rw[N.Jh];exact e1)⟩
  ·cases h
 |fu+1, .ar n a,cs,r,x,h=>by
  simp only[parse]at h
  have key:∀(m:Nat) (cs:List Value) (l:List (a.den N.T)) (r:List Value),rep (parse N fu a) m cs=some (l,r)->∃pre,cs=pre++r/\l.length=m/\AM (N.c a) H l pre:=by
   intro m
   induction m with
   |zero=>intro cs l r h;cases h;exact⟨[],rfl,rfl,rfl⟩
   |succ m ih=>
    intro cs l r h
    simp only[rep]at h
    split at h
    ·rename_i y r' h1
     split at h
     ·rename_i l' r'' h2
      cases h
      obtain⟨q,e4,e5⟩:=B_ (H:=H) h1
      obtain⟨p,e1,e2,e3⟩:=ih _ _ _ h2
      exact⟨q++p,by rw[e4,e1];simp,by simp[e2],q,p,rf,e5,e3⟩
     ·cases h
    ·cases h
  obtain⟨p,e1,e2,e3⟩:=key _ _ _ _ h
  exact⟨p,e1,e2,e3⟩
theorem Cq{H:Hp} :∀ {fu:Nat} {t:Ty} {x:t.den N.T} {off:Nat} {ty:Ty} {y:ty.den N.T} {cs:List Value},Ec N fu t x off ty=some y->(N.c t).Bm H x cs->(N.c ty).Bm H y ((cs.drop off).take (ty.sz N))/\off+ty.sz N<=cs.length
 |0,_,_,_,_,_,_,h,_=>by cases h
 |fu+1,t,x,off,ty,y,cs,h,hl=>by
  unfold Ec at h
  split at h
  ·rename_i f hf
   obtain⟨he,rfl⟩:=Bg hf
   split at h
   ·rename_i h0
    have:=Nat.eq_of_beq_eq_true h0;subst this
    cases h
    have h1:=LV he hl
    have h2:=AX h1
    rw[List.drop_zero,<-h2,List.take_length]
    exact⟨h1,by omega⟩
   ·cases h
  ·cases t with
   |st a=>exact Cq (t:=a) h hl
   |pr a b=>
    obtain⟨c1,c2,rfl,g1,g2⟩:=hl
    have e1:=AX g1
    have e2:=AX g2
    cases hb:Nat.blt off (a.sz N)with
    |true=>
     simp only[hb]at h
     have hb:off<a.sz N:=by simpa using hb
     obtain⟨k1,k2⟩:=Cq (t:=a) h g1
     refine⟨?_,by simp;omega⟩
     rw[List.drop_append_of_le_length (by omega),List.take_append_of_le_length (by simp;omega)]
     exact k1
    |false=>
     simp only[hb]at h
     have hb:¬off<a.sz N:=fun hh=>by rw[show Nat.blt off (a.sz N)=true by simpa using hh]at hb;cases hb
     obtain⟨k1,k2⟩:=Cq (t:=b) h g2
     refine⟨?_,by simp;omega⟩
     rw[List.drop_append,List.drop_of_length_le (by omega),List.nil_append,e1]
     exact k1
   |nm i=>exact Cq (t:=N.body i) h (N.lay.1 hl)
   |ar m a=>
    simp only at h
    split at h
    ·rename_i y' hy
     change List (a.den N.T)at x
     obtain⟨g1,g2⟩:x.length=m/\AM (N.c a) H x cs:=hl
     obtain⟨cs',q1,_,q3⟩:=g2.get hy
     obtain⟨k1,k2⟩:=Cq (t:=a) h q1
     have hlen:=AX q1
     have h0:0<ty.sz N\/ty.sz N=0:=by omega
     have hcl:cs.length=x.length*a.sz N:=by rw[g2.len,A5]
     have hi:=(List.getElem?_eq_some_iff.1 hy).1
     have hd:=Nat.div_add_mod off (a.sz N)
     rw[A5]at q3
     have hm:a.sz N*(off/a.sz N)+a.sz N<=cs.length:=by
      rw[hcl,Nat.mul_comm,<-Nat.succ_mul]
      exact Nat.mul_le_mul_right _ hi
     refine⟨?_,by omega⟩
     rw[q3,List.drop_take,List.take_take,List.drop_drop,Nat.min_eq_left (by omega)]at k1
     rw[show off/a.sz N*a.sz N+off %a.sz N=off by rw[Nat.mul_comm];exact hd]at k1
     exact k1
    ·cases h
   |_=>cases h
theorem eu{cs vs:List Value}{p s r:Nat}(h:p+s<=cs.length)(k:r+vs.length<=s):BZ cs p (BZ ((cs.drop p).take s) r vs)=BZ cs (p+r) vs:=by
 have e1:((cs.drop p).take s).take r=(cs.drop p).take r:=by rw[List.take_take,Nat.min_eq_left (by omega)]
 have e2:((cs.drop p).take s).drop (r+vs.length)=(cs.drop (p+(r+vs.length))).take (s-(r+vs.length)):=by rw[List.drop_take,List.drop_drop]
 have e3:(BZ ((cs.drop p).take s) r vs).length=s:=by unfold BZ;simp;omega
 have e4:cs.drop (p+(r+vs.length))=(cs.drop (p+(r+vs.length))).take (s-(r+vs.length))++cs.drop (p+s):=by
  conv=>lhs;rw[<-List.take_append_drop (s-(r+vs.length)) (cs.drop (p+(r+vs.length)))]
  rw[List.drop_drop,show p+(r+vs.length)+(s-(r+vs.length))=p+s by omega]
 have e5:cs.take (p+r)=cs.take p++(cs.drop p).take r:=List.take_add
 unfold BZ at e3⊢
 rw[e3,e1,e2,e5,Nat.add_assoc]
 conv=>rhs;rw[e4]
 simp only[List.append_assoc]
theorem DL{H:Hp} :∀ {fu:Nat} {t:Ty} {x z:t.den N.T} {off:Nat} {ty:Ty} {y:ty.den N.T} {cs vs:List Value},setAt N fu t x off ty y=some z->(N.c t).Bm H x cs->(N.c ty).Bm H y vs->(N.c t).Bm H z (BZ cs off vs)/\off+vs.length<=cs.length
 |0,_,_,_,_,_,_,_,_,h,_,_=>by cases h
 |fu+1,t,x,z,off,ty,y,cs,vs,h,hl,hy=>by
  unfold setAt at h
  split at h
  ·rename_i f hf
   obtain⟨he,rfl⟩:=Bg hf
   split at h
   ·rename_i h0
    have:=Nat.eq_of_beq_eq_true h0;subst this
    cases h
    have h1:=LV he hy
    have e1:=AX h1
    have e2:=AX hl
    refine⟨?_,by omega⟩
    unfold BZ
    rw[List.take_zero,List.nil_append,Nat.zero_add,List.drop_of_length_le (by omega),List.append_nil]
    exact h1
   ·cases h
  ·cases t with
   |st a=>exact DL (t:=a) h hl hy
   |pr a b=>
    obtain⟨c1,c2,rfl,g1,g2⟩:=hl
    have e1:=AX g1
    have e2:=AX g2
    cases hb:Nat.blt off (a.sz N)with
    |true=>
     simp only[hb]at h
     have hb:off<a.sz N:=by simpa using hb
     obtain⟨w,hw,rfl⟩:=Option.map_eq_some_iff.1 h
     obtain⟨k1,k2⟩:=DL (t:=a) hw g1 hy
     refine⟨⟨BZ c1 off vs,c2,?_,k1,g2⟩,by simp;omega⟩
     unfold BZ
     rw[List.take_append_of_le_length (by omega),List.drop_append_of_le_length (by omega)];simp
    |false=>
     simp only[hb]at h
     have hb:¬off<a.sz N:=fun hh=>by rw[show Nat.blt off (a.sz N)=true by simpa using hh]at hb;cases hb
     obtain⟨w,hw,rfl⟩:=Option.map_eq_some_iff.1 h
     obtain⟨k1,k2⟩:=DL (t:=b) hw g2 hy
     refine⟨⟨c1,BZ c2 (off-a.sz N) vs,?_,g1,k1⟩,by simp;omega⟩
     unfold BZ
     rw[<-e1,List.take_append,List.take_of_length_le (by omega),List.drop_append,List.drop_of_length_le (by omega:c1.length<=off+vs.length)]
     simp
     congr 1;omega
   |ar m a=>
    simp only at h
    split at h
    ·rename_i y' hy'
     change List (a.den N.T)at x
     obtain⟨w,hw,rfl⟩:=Option.map_eq_some_iff.1 h
     obtain⟨g1,g2⟩:x.length=m/\AM (N.c a) H x cs:=hl
     obtain⟨cs',q1,_,q3⟩:=g2.get hy'
     obtain⟨k1,k2⟩:=DL (t:=a) hw q1 hy
     have hlen:=AX q1
     have hi:=(List.getElem?_eq_some_iff.1 hy').1
     have hcl:cs.length=x.length*a.sz N:=by rw[g2.len,A5]
     have hd:=Nat.div_add_mod off (a.sz N)
     have s:=g2.set hi k1
     rw[A5]at q3 s
     have hm:a.sz N*(off/a.sz N)+a.sz N<=cs.length:=by
      rw[hcl,Nat.mul_comm,<-Nat.succ_mul]
      exact Nat.mul_le_mul_right _ hi
     rw[q3,eu (by rw[Nat.mul_comm];exact hm) (by omega),show off/a.sz N*a.sz N+off %a.sz N=off by rw[Nat.mul_comm];exact hd]at s
     exact⟨⟨by rw[List.length_set];exact g1,s⟩,by omega⟩
    ·cases h
   |nm i=>
    obtain⟨w,hw,rfl⟩:=Option.map_eq_some_iff.1 h
    obtain⟨k1,k2⟩:=DL (t:=N.body i) hw (N.lay.1 hl) hy
    exact⟨N.lay.2 (by rw[N.Jh];exact k1),k2⟩
   |_=>cases h
theorem GY{C:List (SV N.T)}{t:Ty}{s:SV N.T}{x:t.den N.T}{η:Nat->Value}{H:Hp}{v:Value}(h:V6 N t s=some x)(hs:s.is C η H v):(SV.d t x).is C η H v:=by
 unfold V6 at h
 split at h
 ·obtain⟨f,hf,rfl⟩:=Option.map_eq_some_iff.1 h
  obtain⟨he,rfl⟩:=Bg hf
  have e:=Ty.Bc he
  subst e;exact hs
 ·cases h;exact⟨[_],rfl,by rw[hs.1];rfl⟩
 ·cases h;exact⟨[_],rfl,by rw[hs.1];rfl⟩
 ·cases h;exact⟨[_],rfl,by rw[hs.1];rfl⟩
 ·cases h;exact⟨[_],rfl,by rw[show v=_ from hs];rfl⟩
 ·cases h;exact⟨[_],rfl,by rw[hs.1];rfl⟩
 ·obtain⟨f,hf,rfl⟩:=Option.map_eq_some_iff.1 h
  obtain⟨he,rfl⟩:=Bg hf
  have e:=Ty.Bc he
  subst e;exact hs.2
 ·have hs:v=_:=hs
  rw[<-hs]at h
  clear hs
  split at h
  ·rename_i y hp
   obtain⟨p,e,hl⟩:=B_ (H:=H) hp
   rw[List.append_nil]at e
   cases ha:t.agg with
   |true=>
    rw[ha]at h
    cases v with
    |agg cs=>cases h;exact⟨p,hl,by unfold BS;rw[ha];rw[<-e];simp[Value.cells]⟩
    |_=>cases h
   |false=>
    rw[ha]at h
    cases v with
    |agg cs=>cases h
    |_=>cases h;exact⟨p,hl,by unfold BS;rw[ha];rw[<-e];rfl⟩
  ·cases h
 ·cases h
end
end Go.GV
namespace Go.GV
open Go Go.GK
def Mo{T:Nat->Type} :SV T->Bool
 | .na _| .lb _| .loc _ _| .Az _| .mp _| .AA _ _ _=>true
 | .raw v=>v.oneCell'
 | .px _ .sf=>true
 |_=>false
section
variable (N : Cw)
def Om:Nat->SV N.T->Nat->Option (SV N.T)
 |0,_,_=>none
 |fu+1,l,n=>match Nat.beq n 0 with
  |true=>some l
  |false=>match l with
   | .lf s _ l=>match Nat.ble s n with
    |true=>Om fu l (n-s)
    |false=>none
   |_=>none
def HD(
     C:List (SV N.T)):Nat->(ty:Ty)->SV N.T->Option (ty.den N.T×SV N.T)
 |0,_,_=>none
 |fu+1,ty,l=>match(match l with
   | .lf s a r=>match Nat.beq s (ty.sz N)with
    |true=>(V6 N ty (res C a)).map fun x=>(x,r)
    |false=>none
   |_=>none)with
  |some p=>some p
  |none=>match ty with
   | .st t=>HD C fu t l
   | .pr a b=>match HD C fu a l with
    |some (x,l)=>match HD C fu b l with
     |some (y,l)=>some ((x,y),l)
     |none=>none
    |none=>none
   | .nm i=>(HD C fu (N.body i) l).map fun p=>(N.og i p.1,p.2)
   |_=>none
def DR(C:List (SV N.T)):SV N.T->Nat->Option Ty->Option (SV N.T)
 | .lf s a l,off,want=>match Nat.blt off s with
  |true=>match Nat.beq off 0&&(Nat.beq s 1&&Mo (res C a))with
   |true=>some (res C a)
   |false=>match want with
    |none=>none
    |some ty=>match(match res C a with
      | .d t x=>Ec N 16 t x off ty
      |_=>none)with
     |some y=>some (.d ty y)
     |none=>match Nat.beq off 0 with
      |true=>(HD N C 16 ty (.lf s a l)).map fun p=> .d ty p.1
      |false=>none
  |false=>DR C l (off-s) want
 |_,_,_=>none
def WZ(C:List (SV N.T)):Nat->SV N.T->Nat->Nat->SV N.T->Option (SV N.T)
 |0,_,_,_,_=>none
 |fu+1,l,off,sz,b=>match l with
  | .lf s a l=>match Nat.blt off s with
   |true=>match Nat.beq off 0&&Nat.ble s sz with
    |true=>(Om N 64 l (sz-s)).map (.lf sz b)
    |false=>match res C a with
     | .d (.st t) x=>WZ C fu (.lf s (.d t x) l) off sz b
     | .d (.pr t u) x=>WZ C fu (.lf (t.sz N) (.d t x.1) (.lf (u.sz N) (.d u x.2) l)) off sz b
     | .d (.nm i) x=>WZ C fu (.lf s (.d (N.body i) (N.out i x)) l) off sz b
     | .d (.ar m t) x=>match Nat.beq (off %t.sz N) 0&&(Nat.beq sz (t.sz N)&&Nat.blt 0 (t.sz N)),V6 N t b,(show List (t.den N.T)from x)[off/t.sz N]? with
      |true,some y,some _=>some (.lf s (.d (.ar m t) (show(Ty.ar m t).den N.T from(show List (t.den N.T)from x).set (off/t.sz N) y)) l)
      |_,_,_=>none
     |_=>none
   |false=>(WZ C fu l (off-s) sz b).map (.lf s a)
  |_=>none
def tU:SV N.T->Option (SV N.T)
 | .lf s a l=>some (.lf s a l)
 | .nl=>some .nl
 | .d t x=>some (.lf (t.sz N) (.d t x) .nl)
 | .ct _ n| .cb _ n=>some (.lf 1 (.na n) .nl)
 | .lt _ n m=>some (.lf 1 (.d .bool (decide ((n:Int)<(m:Int)))) .nl)
 |s=>match Mo s with
  |true=>some (.lf 1 s .nl)
  |false=>none
variable {N} {C : List (SV N.T)}
theorem J8{s:SV N.T}{η:Nat->Value}{H:Hp}{v:Value}(h:Mo s=true)(hs:s.is C η H v):v.oneCell'=true:=by
 cases s<;>simp only[Mo]at h<;>first|(cases h;done)|skip
 ·rw[hs.1];rfl
 ·rw[show v=_ from hs];rfl
 ·rw[show v=_ from hs];exact h
 ·obtain⟨B,_,rfl⟩:=hs;rfl
 ·exact hs.2
 ·exact hs.2
 ·obtain⟨cs,rfl,_⟩:=hs;rfl
 ·rename_i ks p
  cases p with
  |sf=>
   have hs:v= .pointer none\/∃B,ks.map η=[ptr B 0]/\v=ptr B 0:=hs
   rcases hs with rfl|⟨_,_,rfl⟩<;>rfl
  |_=>cases h
theorem AU{v:Value}(h:v.oneCell'=true):v.cells.toList=[v]:=iM h
theorem Ct{t:Ty}{x:t.den N.T}{η:Nat->Value}{H:Hp}{v:Value}(h:(SV.d t x).is C η H v):(N.c t).Bm H x v.cells.toList/\∀u∈v.cells.toList,u.oneCell'=true:=by
 obtain⟨cs,h1,h2⟩:=h
 have ho:=(N.c t).one h1
 unfold BS at h2
 split at h2
 ·subst h2;simpa [Value.cells]using⟨h1,ho⟩
 ·subst h2
  rw[AU (ho v (by simp))]
  exact⟨h1,ho⟩
theorem DX{t:Ty}{x:t.den N.T}{η:Nat->Value}{H:Hp}{cs:List Value}(h:(N.c t).Bm H x cs):∃u,(SV.d t x).is C η H u/\u.cells.toList=cs:=by
 cases ha:t.agg with
 |true=>exact⟨.agg cs.toArray,⟨cs,h,by unfold BS;rw[ha]⟩,by simp[Value.cells]⟩
 |false=>
  have h1:t.sz N=1:=by cases t<;>simp_all [Ty.agg,Ty.sz]
  have hl:=AX h
  rw[h1]at hl
  obtain⟨v,rfl⟩:=List.length_eq_one_iff.1 hl
  exact⟨v,⟨[v],h,by unfold BS;rw[ha]⟩,AU ((N.c t).one h v (by simp))⟩
theorem IG{s:Nat}{a l:SV N.T}{η:Nat->Value}{H:Hp}{u:Value}{c2:List Value}(h:a.is C η H u)(hs:u.cells.toList.length=s)(ho:∀x∈u.cells.toList,x.oneCell'=true)(k:l.is C η H (.agg c2.toArray)):(SV.lf s a l).is C η H (.agg (u.cells.toList++c2).toArray):=
 ⟨u.cells.toList,c2,u,rfl,hs,h,rfl,ho,k⟩
theorem Py{t:Ty}{x:t.den N.T}{l:SV N.T}{η:Nat->Value}{H:Hp}{c1 c2:List Value}(h:(N.c t).Bm H x c1)(k:l.is C η H (.agg c2.toArray)):(SV.lf (t.sz N) (.d t x) l).is C η H (.agg (c1++c2).toArray):=by
 obtain⟨u,h1,h2⟩:=DX (C:=C) (η:=η) h
 have:=IG (s:=t.sz N) h1 (by rw[h2];exact AX h) (Ct h1).2 k
 rwa [h2]at this
theorem Ls{η:Nat->Value}{H:Hp} :(SV.nl:SV N.T).is C η H (.agg ([]:List Value).toArray):=rfl
theorem En{s:Nat}{a l:SV N.T}{η:Nat->Value}{H:Hp}{cs:List Value}(h:(SV.lf s a l).is C η H (.agg cs.toArray)):∃c1 c2 u,cs=c1++c2/\c1.length=s/\a.is C η H u/\u.cells.toList=c1/\(∀x∈c1,x.oneCell'=true)/\l.is C η H (.agg c2.toArray):=by
 obtain⟨c1,c2,u,h1,h2⟩:=h
 refine⟨c1,c2,u,?_,h2⟩
 simpa using h1
theorem dX{s l:SV N.T}{η:Nat->Value}{H:Hp}{v:Value}(h:tU N s=some l)(hs:s.is C η H v):l.is C η H (.agg v.cells):=by
 have one:∀ {s:SV N.T},s.is C η H v->v.oneCell'=true->(SV.lf 1 s .nl).is C η H (.agg v.cells):=fun{s} hs ho=>by
  have:=IG (s:=1) hs (by rw[AU ho];rfl) (by rw[AU ho];intro x hx;simp at hx;subst hx;exact ho) Ls
  simpa using this
 have gen:∀ {s:SV N.T},s.is C η H v->Mo s=true->(SV.lf 1 s .nl).is C η H (.agg v.cells):=fun hs hb=>one hs (J8 hb hs)
 unfold tU at h
 split at h
 ·cases h
  obtain⟨c1,c2,u,rfl,h2⟩:=hs
  exact⟨c1,c2,u,rf,h2⟩
 ·cases h
  rw[show v=_ from hs];rfl
 ·cases h
  obtain⟨h1,h2⟩:=Ct hs
  have:=Py (C:=C) (η:=η) (c2:=[]) h1 Ls
  simpa using this
 ·cases h;exact one (s:= .na _) hs (by rw[hs.1];rfl)
 ·cases h;exact one (s:= .na _) ⟨hs.1,Nat.le_of_lt hs.2⟩ (by rw[hs.1];rfl)
 ·cases h;exact one (s:= .d .bool _) ⟨[_],rfl,by rw[hs.1];rfl⟩ (by rw[hs.1];rfl)
 ·split at h
  ·rename_i hb;cases h;exact gen hs hb
  ·cases h
theorem Kx{η:Nat->Value}{H:Hp} :∀ {fu:Nat} {l r:SV N.T} {n:Nat} {cs:List Value},Om N fu l n=some r->l.is C η H (.agg cs.toArray)->r.is C η H (.agg (cs.drop n).toArray)/\n<=cs.length
 |0,_,_,_,_,h,_=>by cases h
 |fu+1,l,r,n,cs,h,hl=>by
  unfold Om at h
  split at h
  ·rename_i h0
   have:=Nat.eq_of_beq_eq_true h0;subst this
   cases h
   exact⟨hl,Nat.zero_le _⟩
  ·split at h
   ·rename_i s a l
    split at h
    ·rename_i hb
     have hb:=Nat.le_of_ble_eq_true hb
     obtain⟨c1,c2,u,rfl,h2,_,_,_,h6⟩:=En hl
     obtain⟨k1,k2⟩:=Kx h h6
     refine⟨?_,by simp;omega⟩
     rw[List.drop_append,List.drop_of_length_le (by omega),List.nil_append,h2]
     exact k1
    ·cases h
   ·cases h
theorem Dl{η:Nat->Value}{H:Hp} :∀ {fu:Nat} {ty:Ty} {l r:SV N.T} {x:ty.den N.T} {cs:List Value},HD N C fu ty l=some (x,r)->l.is C η H (.agg cs.toArray)->∃c1 c2,cs=c1++c2/\(N.c ty).Bm H x c1/\r.is C η H (.agg c2.toArray)
 |0,_,_,_,_,_,h,_=>by cases h
 |fu+1,ty,l,r,x,cs,h,hl=>by
  unfold HD at h
  split at h
  ·rename_i p hp
   cases h
   split at hp
   ·rename_i s a r'
    split at hp
    ·obtain⟨y,hy,e⟩:=Option.map_eq_some_iff.1 hp
     cases e
     obtain⟨c1,c2,u,rfl,h2,h3,h4,h5,h6⟩:=En hl
     refine⟨c1,c2,rf,?_,h6⟩
     rw[<-h4]
     exact(Ct (GY hy (DN h3))).1
    ·cases hp
   ·cases hp
  ·cases ty with
   |st t=>exact Dl (ty:=t) h hl
   |pr a b=>
    simp only at h
    split at h
    ·rename_i y l1 h1
     split at h
     ·rename_i z l2 h2
      cases h
      obtain⟨c1,c2,rfl,g1,g2⟩:=Dl h1 hl
      obtain⟨c3,c4,rfl,g3,g4⟩:=Dl h2 g2
      exact⟨c1++c3,c4,by simp,⟨c1,c3,rf,g1,g3⟩,g4⟩
     ·cases h
    ·cases h
   |nm i=>
    obtain⟨⟨y,l1⟩,h1,e⟩:=Option.map_eq_some_iff.1 h
    cases e
    obtain⟨c1,c2,rfl,g1,g2⟩:=Dl h1 hl
    exact⟨c1,c2,rf,N.lay.2 (by rw[N.Jh];exact g1),g2⟩
   |_=>cases h
structure o9(C:List (SV N.T))(η:Nat->Value)(H:Hp)(sv:SV N.T)(c:List Value):Prop where
 ex:∃u,sv.is C η H u/\u.cells.toList=c/\((∃ty x,sv= .d ty x/\c.length=ty.sz N)\/(u.oneCell'=true/\∀ty x,sv≠ .d ty x))
theorem CJ{η:Nat->Value}{H:Hp} :∀ {l sv:SV N.T} {off:Nat} {want:Option Ty} {cs:List Value},DR N C l off want=some sv->l.is C η H (.agg cs.toArray)->∃c,o9 C η H sv c/\(cs.drop off).take c.length=c:=by
 intro l
 induction l with
 |lf s a l _ ih=>
  intro sv off want cs h hl
  obtain⟨c1,c2,u,rfl,h2,h3,h4,h5,h6⟩:=En hl
  unfold DR at h
  split at h
  ·split at h
   ·rename_i hb hb2
    cases h
    simp only[Bool.and_eq_true]at hb2
    have e0:=Nat.eq_of_beq_eq_true hb2.1
    have e1:=Nat.eq_of_beq_eq_true hb2.2.1
    subst e0
    have h3:=DN h3
    have ho:=J8 hb2.2.2 h3
    refine⟨c1,⟨u,h3,h4, .inr ⟨ho,fun ty x e=>?_⟩⟩,by rw[List.drop_zero,List.take_left'];rfl⟩
    rw[e]at hb2;cases hb2.2.2
   ·split at h
    ·cases h
    ·rename_i ty
     split at h
     ·rename_i y hy
      cases h
      split at hy
      ·rename_i t x hra
       have h3:=DN h3
       rw[hra]at h3
       have h7:=(Ct h3).1
       rw[h4]at h7
       obtain⟨k1,k2⟩:=Cq hy h7
       obtain⟨w,w1,w2⟩:=DX (C:=C) (η:=η) k1
       have hlen:((c1.drop off).take (ty.sz N)).length=ty.sz N:=by simp;omega
       refine⟨_,⟨w,w1,w2, .inl ⟨ty,y,rf,hlen⟩⟩,?_⟩
       rw[hlen,List.drop_append_of_le_length (by omega),List.take_append_of_le_length (by simp;omega)]
      ·cases hy
     ·split at h
      ·rename_i h0
       have:=Nat.eq_of_beq_eq_true h0;subst this
       obtain⟨⟨y,r⟩,h8,e⟩:=Option.map_eq_some_iff.1 h
       cases e
       obtain⟨d1,d2,e2,g1,g2⟩:=Dl h8 hl
       obtain⟨w,w1,w2⟩:=DX (C:=C) (η:=η) g1
       refine⟨d1,⟨w,w1,w2, .inl ⟨ty,y,rf,AX g1⟩⟩,?_⟩
       rw[e2,List.drop_zero,List.take_left'];rfl
      ·cases h
  ·rename_i hb
   have hb:s<=off:=by
    rcases Nat.lt_or_ge off s with hh|hh
    ·rw[show Nat.blt off s=true by simpa using hh]at hb;cases hb
    ·exact hh
   obtain⟨c,k1,k2⟩:=ih h h6
   refine⟨c,k1,?_⟩
   rw[List.drop_append,List.drop_of_length_le (by omega),List.nil_append,h2];exact k2
 |_=>intro sv off want cs h _;simp[DR]at h
theorem GH{η:Nat->Value}{H:Hp}{v:Value}{b:SV N.T}(hb:b.is C η H v)(ho:∀x∈v.cells.toList,x.oneCell'=true):∀ {fu:Nat} {l l':SV N.T} {off:Nat} {cs:List Value},WZ N C fu l off v.cells.toList.length b=some l'->l.is C η H (.agg cs.toArray)->
  l'.is C η H (.agg (BZ cs off v.cells.toList).toArray)/\off+v.cells.toList.length<=cs.length
 |0,_,_,_,_,h,_=>by cases h
 |fu+1,l,l',off,cs,h,hl=>by
  unfold WZ at h
  split at h
  ·rename_i s a l
   obtain⟨c1,c2,u,rfl,h2,h3,h4,h5,h6⟩:=En hl
   split at h
   ·split at h
    ·rename_i hb1 hb2
     simp only[Bool.and_eq_true]at hb2
     have e0:=Nat.eq_of_beq_eq_true hb2.1
     have e1:=Nat.le_of_ble_eq_true hb2.2
     subst e0
     obtain⟨r,hr,rfl⟩:=Option.map_eq_some_iff.1 h
     obtain⟨k1,k2⟩:=Kx hr h6
     refine⟨?_,by simp at*;omega⟩
     have:=IG hb rfl ho k1
     have e:BZ (c1++c2) 0 v.cells.toList=v.cells.toList++c2.drop (v.cells.toList.length-s):=by
      unfold BZ
      rw[List.take_zero,List.nil_append,Nat.zero_add,List.drop_append,List.drop_of_length_le (by omega),List.nil_append,h2]
     rw[e];exact this
    ·split at h
     ·rename_i t x hra
      have h3:=DN h3
      rw[hra]at h3
      have h7:=(Ct h3).1
      rw[h4]at h7
      have:=Py (t:=t) (C:=C) (η:=η) h7 h6
      rw[show t.sz N=s from by rw[<-h2];exact(AX h7).symm]at this
      exact GH hb ho h this
     ·rename_i t u' x hra
      have h3:=DN h3
      rw[hra]at h3
      have h7:=(Ct h3).1
      rw[h4]at h7
      obtain⟨d1,d2,e,g1,g2⟩:=h7
      have:=Py (t:=t) (C:=C) (η:=η) g1 (Py (t:=u') (C:=C) (η:=η) g2 h6)
      rw[<-List.append_assoc,<-e]at this
      exact GH hb ho h this
     ·rename_i i x hra
      have h3:=DN h3
      rw[hra]at h3
      have h7:=(Ct h3).1
      rw[h4]at h7
      have h8:=N.lay.1 h7
      have:=Py (t:=N.body i) (C:=C) (η:=η) h8 h6
      rw[show(N.body i).sz N=s from by rw[<-h2];exact(AX h8).symm]at this
      exact GH hb ho h this
     ·rename_i m t x hra
      split at h
      ·rename_i y x0 hck hy hget
       cases h
       simp only[Bool.and_eq_true]at hck
       have e0:=Nat.eq_of_beq_eq_true hck.1
       have e1:=Nat.eq_of_beq_eq_true hck.2.1
       have h3:=DN h3
       rw[hra]at h3
       have h7:=(Ct h3).1
       rw[h4]at h7
       change List (t.den N.T)at x
       obtain⟨g1,g2⟩:x.length=m/\AM (N.c t) H x c1:=h7
       have hy':=(Ct (GY hy hb)).1
       obtain⟨cs',q1,_,q3⟩:=g2.get hget
       have hlen:=AX q1
       have hdm:=Nat.div_add_mod off (t.sz N)
       have hcl:c1.length=x.length*t.sz N:=by rw[g2.len,A5]
       have hi:=(List.getElem?_eq_some_iff.1 hget).1
       have hm:t.sz N*(off/t.sz N)+t.sz N<=c1.length:=by
        rw[hcl,Nat.mul_comm,<-Nat.succ_mul]
        exact Nat.mul_le_mul_right _ hi
       have hle:off+v.cells.toList.length<=c1.length:=by rw[e1];omega
       have hp:=g2.part (off:=0) (y:=y) (vs:=v.cells.toList) hget q3 (by rw[A5];exact hlen) (by rw[A5,e1];omega) (by
        have:BZ cs' 0 v.cells.toList=v.cells.toList:=by
         unfold BZ
         rw[List.take_zero,List.nil_append,Nat.zero_add,List.drop_of_length_le (by omega),List.append_nil]
        rw[this];exact hy')
       rw[A5,Nat.add_zero,show off/t.sz N*t.sz N=off by rw[Nat.mul_comm];omega]at hp
       have hlay:(N.c (.ar m t)).Bm H (show(Ty.ar m t).den N.T from(show List (t.den N.T)from x).set (off/t.sz N) y) (BZ c1 off v.cells.toList):=⟨by rw[List.length_set];exact g1,hp⟩
       have:=Py (t:= .ar m t) (C:=C) (η:=η) hlay h6
       rw[show(Ty.ar m t).sz N=s from by rw[<-h2];exact(AX (t:= .ar m t) (show(N.c (.ar m t)).Bm H x c1 from⟨g1,g2⟩)).symm]at this
       refine⟨?_,by rw[List.length_append];omega⟩
       have e:BZ (c1++c2) off v.cells.toList=BZ c1 off v.cells.toList++c2:=by
        unfold BZ
        rw[List.take_append_of_le_length (by omega),List.drop_append_of_le_length (by omega)];simp
       rw[e];exact this
      ·cases h
     ·cases h
   ·rename_i hb1
    have hb1:s<=off:=by
     rcases Nat.lt_or_ge off s with hh|hh
     ·rw[show Nat.blt off s=true by simpa using hh]at hb1;cases hb1
     ·exact hh
    obtain⟨r,hr,rfl⟩:=Option.map_eq_some_iff.1 h
    obtain⟨k1,k2⟩:=GH hb ho hr h6
    refine⟨?_,by simp at*;omega⟩
    have:=IG (s:=s) h3 (by rw[h4];exact h2) (by rw[h4];exact h5) k1
    rw[h4]at this
    have e:BZ (c1++c2) off v.cells.toList=c1++BZ c2 (off-s) v.cells.toList:=by
     unfold BZ
     rw[List.take_append,List.take_of_length_le (by omega),List.drop_append,List.drop_of_length_le (by omega:c1.length<=off+v.cells.toList.length),h2]
     simp
     congr 1;omega
    rw[e];exact this
  ·cases h
end
end Go.GV
namespace Go.GV
open Go Go.GK
section
variable (N : Cw) {R : Type}
def PI:List (Option Ty)->Option (Option Ty)
 | []=>some none
 |none::_=>none
 |some t::l=>match PI l with
  |some none=>some (some t)
  |some (some u)=>some (some (.pr t u))
  |none=>none
def Xa(
     P:Program):Nat->TypeId->Option Ty
 |0,_=>none
 |fu+1,t=>match N.id t with
  |some i=>some (.nm i)
  |none=>match P.underlying t with
   |some .bool=>some .bool
   |some (.int k)=>some (.int k)
   |some .string=>some .str
   |some (.slice e)=>(Xa P fu e).map .sl
   |some (.array n e)=>match P.underlying e,Nat.beq n 4 with
    |some (.int .u64),true=>some .bs
    |_,_=>(Xa P fu e).map fun t=>match Nat.ble n 4 with
     |true=> .st (match PI (List.replicate n (some t))with|some (some u)=>u|_=> .un)
     |false=> .ar n t
   |some (.struct fs)=>(PI (fs.toList.map fun f=>Xa P fu f.type)).map fun r=> .st (r.getD .un)
   |_=>none
def iy:Bool->Bool->Bool
 |true,true|false,false=>true
 |_,_=>false
theorem Rh:∀ {a b:Bool},iy a b=true->a=b:=by decide
def Jc(P:Program)(t:TypeId):Option Ty:=match Xa N P 12 t,P.underlying t with
 |some ty,some d=>match iy (C5 d) ty.agg&&OU P t (ty.sz N)with
  |true=>some ty
  |false=>none
 |_,_=>none
variable {N}
theorem GG{P:Program}{t:TypeId}{ty:Ty}(h:Jc N P t=some ty):∃d,P.underlying t=some d/\C5 d=ty.agg/\∃bytes z,TI P t (ty.sz N) bytes z:=by
 unfold Jc at h
 split at h
 ·rename_i d _ hd
  split at h
  ·rename_i hb
   cases h
   simp only[Bool.and_eq_true]at hb
   exact⟨_,hd,Rh hb.1,Du hb.2⟩
  ·cases h
 ·cases h
def intOf:SV N.T->Option (IntKind×Int)
 | .d (.int k) x=>some (k,x)
 | .na n| .ct _ n| .cb _ n=>some (.i64,(n:Int))
 | .raw (.int k n)=>some (k,n)
 |_=>none
theorem AP{C:List (SV N.T)}{s:SV N.T}{k:IntKind}{n:Int}{η:Nat->Value}{H:Hp}{v:Value}(h:intOf s=some (k,n))(hs:s.is C η H v):v= .int k n:=by
 unfold intOf at h
 split at h
 ·cases h
  obtain⟨cs,h1,h2⟩:=hs
  have h1:=(Db.1 h1).1
  subst h1
  have h2:[_]=[v]:=h2
  cases h2;rfl
 ·cases h;exact hs.1
 ·cases h;exact hs.1
 ·cases h;exact hs.1
 ·cases h;exact hs
 ·cases h
def Ab(k:IntKind)(n:Int)(x:Option R):Option R:=match k with
 | .i64=>Ah (C6 n) x
 | .u8=>Ah (F8 n) x
 |k=>Ah (k.min<=n/\n<=k.max) x
theorem Bs{k:IntKind}{n:Int}{x:Option R}{r:R}(h:Ab k n x=some r):(k.min<=n/\n<=k.max)/\PK k n/\x=some r:=by
 unfold Ab at h
 split at h
 ·obtain⟨h1,h2⟩:=AF h;exact⟨ML h1,trivial,h2⟩
 ·obtain⟨h1,h2⟩:=AF h;exact⟨Vs h1,h1,h2⟩
 ·rename_i q1 q2
  obtain⟨h1,h2⟩:=AF h
  refine⟨h1,?_,h2⟩
  cases k<;>first|exact h1|exact absurd rfl q1|exact absurd rfl q2
theorem Dd{C:List (SV N.T)}{k:IntKind}{n:Int}{η:Nat->Value}{H:Hp}(h:PK k n):(SV.d (.int k) n:SV N.T).is C η H (.int k n):=⟨[_],Db.2 ⟨rfl,h⟩,rfl⟩
def Mn(wr:List (Nat×SR N.T))(Rr:Nat->Option (SR N.T))(k:Nat):Option (SR N.T):=match An wr k with
 |some x=>some x
 |none=>Rr k
def CD(τ:Nat->Nat)(Rr:Nat->Option (SR N.T)):SV N.T->Prop
 | .ct i n=>τ i=n
 | .cb i n=>τ i=n
 | .lt i n _=>τ i=n
 | .Di k i _ t x=> ∀g t' l,Rr k=some (.row g t' l)->∃h:t'.Ig t=true,(idx l i).map (Rs h)=some x
 |_=>True
def KP(Rr:Nat->Option (SR N.T))(S:Nat->SV N.T)(τ:Nat->Nat):Prop:= ∀t,CD τ Rr (S t)
structure AL(P:Program)(C:List (SV N.T))(S:Nat->SV N.T)(Rr:Nat->Option (SR N.T))(nk:Nat)(o:Oper)(k:A_ N.T->Nat->Option R)(r:R):Prop where
 ex:∃s nk',k s nk'=some r/\Al P C S Rr o s/\nk<=nk'/\(∀j∈keys s.wr,Rr j=none->nk<=j/\j<nk')/\∀τ,KP Rr S τ->CD τ (Mn s.wr Rr) s.sv
section
variable {P : Program} {C : List (SV N.T)} {S : Nat -> SV N.T} {Rr : Nat -> Option (SR N.T)} {nk : Nat} {o : Oper} {k : A_ N.T -> Nat -> Option R} {r : R}
theorem AL.y{sv:SV N.T}{rd:List Nat}(h:k ⟨sv,rd,[]⟩ nk=some r)(hl:Al P C S Rr o ⟨sv,rd,[]⟩)(hw:∀τ,KP Rr S τ->CD τ Rr sv):AL P C S Rr nk o k r:=
 ⟨_,nk,h,hl,Nat.le_refl _,fun j hj=>(by cases hj),hw⟩
theorem AL.new{sv:SV N.T}{rd:List Nat}{s1:SR N.T}(h:k ⟨sv,rd,[(nk,s1)]⟩ (nk+1)=some r)(hl:Al P C S Rr o ⟨sv,rd,[(nk,s1)]⟩)(hw:∀τ Rr,CD τ Rr sv):AL P C S Rr nk o k r:=
 ⟨_,nk+1,h,hl,Nat.le_succ _,fun j hj _=>(by simp[keys]at hj;subst hj;omega),fun τ _=>hw τ _⟩
theorem AL.set{sv:SV N.T}{rd:List Nat}{b:Nat}{s0 s1:SR N.T}(h:k ⟨sv,rd,[(b,s1)]⟩ nk=some r)(h0:Rr b=some s0)(hl:Al P C S Rr o ⟨sv,rd,[(b,s1)]⟩)(hw:∀τ Rr,CD τ Rr sv):AL P C S Rr nk o k r:=
 ⟨_,nk,h,hl,Nat.le_refl _,fun j hj hn=>(by simp[keys]at hj;subst hj;rw[h0]at hn;cases hn),fun τ _=>hw τ _⟩
theorem JE{x:Operand}{τ:Nat->Nat}(h:KP Rr S τ):CD τ Rr (Ap S x):=by
 cases x with
 |tmp t=>exact h t
 |const v=>simp only[Ap,ofConst];split<;>trivial
 |_=>trivial
theorem eN{s:SV N.T}{τ:Nat->Nat}(h:Mo s=true):CD τ Rr s:=by
 cases s<;>first|trivial|cases h
theorem QH{x:Operand}(ho:o.op= .move x\/o.op= .assign x)(h:k ⟨Ap S x,[],[]⟩ nk=some r):AL P C S Rr nk o k r:=by
 refine .y h (Al.Cy fun η H O a hx _=>⟨a.eval x,?_,?_⟩) fun τ h=>JE h
 ·rcases ho with ho|ho<;>rw[ho]
  ·exact Am.move rf
  ·exact Am.assign rf
 ·rcases ho with ho|ho<;>exact hx x (by rw[ho];simp[Op.operands])
theorem Ut{c x y:Operand}(ho:o.op= .pick c x y)(hc:Ap S c= .lb true)(h:k ⟨Ap S x,[],[]⟩ nk=some r):AL P C S Rr nk o k r:=by
 refine .y h (Al.Cy fun η H O a hx _=>⟨a.eval x,?_,hx x (by rw[ho];simp[Op.operands])⟩) fun τ h=>JE h
 have:=hx c (by rw[ho];simp[Op.operands])
 rw[hc]at this
 rw[ho];exact Am.nF (congrArg some this) rfl
theorem Uu{c x y:Operand}(ho:o.op= .pick c x y)(hc:Ap S c= .lb false)(h:k ⟨Ap S y,[],[]⟩ nk=some r):AL P C S Rr nk o k r:=by
 refine .y h (Al.Cy fun η H O a hx _=>⟨a.eval y,?_,hx y (by rw[ho];simp[Op.operands])⟩) fun τ h=>JE h
 have:=hx c (by rw[ho];simp[Op.operands])
 rw[hc]at this
 rw[ho];exact Am.nG (congrArg some this) rfl
def y_(P:Program)(t:TypeId)(sv:SV N.T):Bool:=match P.underlying t with
 |some d=>match sv with
  | .d ty _=>iy (C5 d) ty.agg&&OU P t (ty.sz N)
  |_=> !C5 d
 |none=>false
def n7(P:Program)(C:List (SV N.T))(S:Nat->SV N.T)(Rr:Nat->Option (SR N.T))(nk:Nat)(t:TypeId)(x:Operand)(k:A_ N.T->Nat->Option R):Option R:=match Ap S x with
 | .loc b off=>match Rr b with
  |some (.Af _ l)=>match DR N C l off (Jc N P t)with
   |some sv=>match y_ P t sv with
    |true=>k ⟨sv,[b],[]⟩ nk
    |false=>none
   |none=>none
  |_=>none
 | .pd t' y off=>match Jc N P t with
  |some ty=>match Ec N 16 t' y off ty,Nat.blt 0 (ty.sz N)with
   |some z,true=>k ⟨.d ty z,[],[]⟩ nk
   |_,_=>none
  |none=>none
 | .Di b _ off te y=>match Rr b,Jc N P t with
  |some (.row _ _ _),some ty=>match Ec N 16 te y off ty,Nat.blt 0 (ty.sz N)with
   |some z,true=>k ⟨.d ty z,[b],[]⟩ nk
   |_,_=>none
  |_,_=>none
 |_=>none
theorem HP{t:Ty}{cs:List Value}{v:Value}(h:BS t cs v)(ha:t.agg=true):v= .agg cs.toArray:=by unfold BS at h;rw[ha]at h;exact h
theorem HO{t:Ty}{cs:List Value}{v:Value}(h:BS t cs v)(ha:t.agg=false):cs=[v]:=by unfold BS at h;rw[ha]at h;exact h
theorem drop_one{cs:List Value}{off:Nat}{u:Value}(h:(cs.drop off).take 1=[u]):cs[off]?=some u:=by
 have:((cs.drop off).take 1)[0]?=some u:=by rw[h];rfl
 simpa using this
theorem Uw{t:TypeId}{x:Operand}(ho:o.op= .load t x)(hW:∃τ,KP Rr S τ)(h:n7 P C S Rr nk t x k=some r):AL P C S Rr nk o k r:=by
 have hop:∀ {η:Nat->Value} {H:Hp} {a:Act},(∀x∈o.op.operands,(Ap S x).is C η H (a.eval x))->(Ap S x).is C η H (a.eval x):=fun hx=>hx x (by rw[ho];simp[Op.operands])
 unfold n7 at h
 split at h
 ·rename_i b off hs
  split at h
  ·rename_i g l hb
   split at h
   ·rename_i sv hl
    split at h
    ·rename_i hB
     refine .y h (Al.Cy fun η H O a hx hr=>?_) fun τ _=>?_
     ·obtain⟨B,e1,e2⟩:(SV.loc b off:SV N.T).is C η H (a.eval x):=by rw[<-hs];exact hop hx
      rcases hr b (by simp) _ hb with e|⟨X,i,h1,B',cs,e3,e4,h2⟩
      ·cases e
      rw[e1]at e3
      have e3:B=B':=by simpa [ptr]using e3
      subst e3;subst e4
      obtain⟨c,⟨u,k1,k2,k3⟩,k4⟩:=CJ (cs:=cs.toList) hl h2
      unfold y_ at hB
      split at hB
      ·rename_i d hd
       rcases k3 with⟨ty,y,rfl,hlen⟩|⟨ho1,hnd⟩
       ·simp only[Bool.and_eq_true]at hB
        have hag:=Rh hB.1
        obtain⟨bytes,z,hti⟩:=Du hB.2
        obtain⟨cs',q1,q2⟩:=k1
        refine⟨u,?_,⟨cs',q1,q2⟩⟩
        rw[ho]
        cases ha:ty.agg with
        |true=>
         have:=HP q2 ha
         subst this
         have hc:cs'=c:=by simpa [Value.cells]using k2
         subst hc
         exact Am.U1 hd (by rw[hag,ha]) (by rw[hlen];exact hti) (congrArg some e2) h1 k4
        |false=>
         have:=HO q2 ha
         subst this
         have hc:c=[u]:=by rw[<-k2];exact AU ((N.c ty).one q1 u (by simp))
         subst hc
         exact Am.LA hd (by rw[hag,ha]) (congrArg some e2) h1 (by simpa using drop_one k4)
       ·have hB':C5 d=false:=by
         cases sv with
         |d ty y=>exact absurd rfl (hnd ty y)
         |_=>simpa using hB
        refine⟨u,?_,k1⟩
        have hc:c=[u]:=by rw[<-k2];exact AU ho1
        subst hc
        rw[ho]
        exact Am.LA hd hB' (congrArg some e2) h1 (by simpa using drop_one k4)
      ·cases hB
     ·have:∀ {l sv:SV N.T} {off:Nat} {want:Option Ty},DR N C l off want=some sv->CD τ Rr sv:=by
       intro l
       induction l with
       |lf s a l _ ih=>
        intro sv off want h
        unfold DR at h
        split at h
        ·split at h
         ·rename_i hb;cases h;simp only[Bool.and_eq_true]at hb
          exact eN hb.2.2
         ·split at h
          ·cases h
          ·split at h
           ·cases h;trivial
           ·split at h
            ·obtain⟨p,_,rfl⟩:=Option.map_eq_some_iff.1 h;trivial
            ·cases h
        ·exact ih h
       |_=>intro sv off want h;simp[DR]at h
      exact this hl
    ·cases h
   ·cases h
  ·cases h
 ·rename_i t' y off hs
  split at h
  ·rename_i ty ht
   split at h
   ·rename_i z hz h0
    refine .y h (Al.Cy fun η H O a hx hr=>?_) fun τ _=>trivial
    obtain⟨ad,q,cs,e1,h1,h2⟩:(SV.pd t' y off:SV N.T).is C η H (a.eval x):=by rw[<-hs];exact hop hx
    obtain⟨d,hd,hag,bytes,zv,hti⟩:=GG ht
    obtain⟨k1,k2⟩:=Cq hz h1
    obtain⟨u,w1,w2⟩:=DX (η:=η) k1
    have hlen:((cs.drop off).take (ty.sz N)).length=ty.sz N:=by simp;omega
    have hc:∀j u,((cs.drop off).take (ty.sz N))[j]?=some u->C8 H (.pointer (some (ad.add (q+off+j)))) u:=fun j u hj=>by
     rw[List.getElem?_take]at hj
     split at hj
     ·rw[List.getElem?_drop]at hj;rw[Nat.add_assoc];exact h2 _ u hj
     ·cases hj
    refine⟨u,?_,w1⟩
    rw[ho]
    obtain⟨cs',q1,q2⟩:=w1
    cases ha:ty.agg with
    |true=>
     have:=HP q2 ha
     subst this
     have e:cs'=(cs.drop off).take (ty.sz N):=by simpa [Value.cells]using w2
     subst e
     refine Am.uD (v:= .slice (some ad) 0 0) (k:=q+off) hd (by rw[hag,ha]) (by rw[hlen];exact hti) ?_ (congrArg some e1) hc
     cases hl:(cs.drop off).take (ty.sz N)with
     |nil=>rw[hl]at hlen;simp at hlen h0;omega
     |cons a l=>rfl
    |false=>
     have:=HO q2 ha
     subst this
     rw[AU ((N.c ty).one q1 u (by simp))]at w2
     exact Am.ldH hd (by rw[hag,ha]) (congrArg some e1) (by have:=hc 0 u (by rw[<-w2];rfl);simpa using this)
   ·cases h
  ·cases h
 ·rename_i b i off te y hs
  split at h
  ·rename_i g te' l ty hb ht
   split at h
   ·rename_i z hz h0
    refine .y h (Al.Cy fun η H O a hx hr=>?_) fun τ _=>trivial
    obtain⟨e1,ad,n',c',e2⟩:(SV.Di b i off te y:SV N.T).is C η H (a.eval x):=by rw[<-hs];exact hop hx
    obtain⟨τ,hτ⟩:=hW
    have hw:CD τ Rr (Ap S x):=JE hτ
    rw[hs]at hw
    obtain⟨he,hi⟩:=hw g te' l hb
    obtain⟨y',hy',rfl⟩:=Option.map_eq_some_iff.1 hi
    have ee:=Ty.Bc he
    subst ee
    rcases hr b (by simp) _ hb with e|⟨X,j,h1,xs,e3,hL⟩
    ·cases e
    subst e3
    obtain⟨d,hd,hag,bytes,zv,hti⟩:=GG ht
    obtain⟨cs,g1,g2,_⟩:=hL.get (FB hy').2
    obtain⟨k1,k2⟩:=Cq hz g1
    obtain⟨u,w1,w2⟩:=DX (η:=η) k1
    have hlen:((cs.drop off).take (ty.sz N)).length=ty.sz N:=by simp;omega
    have hc:∀j u,((cs.drop off).take (ty.sz N))[j]?=some u->xs[i.toNat*te'.sz N+off+j]?=some u:=fun j u hj=>by
     rw[List.getElem?_take]at hj
     split at hj
     ·rw[List.getElem?_drop]at hj;have:=g2 _ u hj;rw[A5]at this;rw[Nat.add_assoc];exact this
     ·cases hj
    refine⟨u,?_,w1⟩
    rw[ho]
    obtain⟨cs',q1,q2⟩:=w1
    cases ha:ty.agg with
    |true=>
     have:=HP q2 ha
     subst this
     have e:cs'=(cs.drop off).take (ty.sz N):=by simpa [Value.cells]using w2
     subst e
     refine Am.gE hd (by rw[hag,ha]) (by rw[hlen];exact hti) ?_ (congrArg some e1) h1 hc
     intro hl
     rw[hl]at hlen;simp at hlen h0;omega
    |false=>
     have:=HO q2 ha
     subst this
     rw[AU ((N.c ty).one q1 u (by simp))]at w2
     exact Am.n6 hd (by rw[hag,ha]) (congrArg some e1) h1 (by have:=hc 0 u (by rw[<-w2];rfl);simpa using this)
   ·cases h
  ·cases h
 ·cases h
end
end
end Go.GV
