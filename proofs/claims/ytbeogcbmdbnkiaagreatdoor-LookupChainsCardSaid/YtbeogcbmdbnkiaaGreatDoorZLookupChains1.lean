/- Part 1 of the texts of this claim: what its theorem leans on. -/
import Derived.WalkKit
import Derived.Deep.Quiet
import Derived.StillTail
import Derived.ProofKit
import Derived.OpenShut
import Derived.Carry
import Derived.Deep.Slices
import Derived.Scope
import Derived.Laws.StructEq
import Derived.ChangeKeysEq
import Derived.WalkLawsBesides
import Derived.Maps.OwnOps
import Derived.Maps.OwnSet
import Derived.Lib.AppendStr
import Derived.Lib.UnsafeStr
import Derived.Lib.Builder
import Derived.Laws.Externs
import Derived.LaidEqlPtr
import Derived.Lib.LaidTab
import Derived.Lib.ItoaNum
import Derived.Sort.OwnSortedInts
import Derived.Deep.Draws
import Derived.WalkSmall
import Derived.ChangeMaps5
import Derived.Test.YtbeogcbmdbnkiaaGreatDoorProg
import Derived.KernelRfl
import Derived.Shelf.Small.Wraps
import Derived.Shelf.Strconv.Itoa0
import Derived.Shelf.Strconv.Itoa1
import Derived.Shelf.LaysM
import Derived.Shelf.Strconv.Itoa2
import Derived.Shelf.Strconv.Itoa3
import Derived.Shelf.Strconv.AppendUint10
import Derived.Shelf.Strconv.AppendInt10
import Derived.Shelf.Strconv.AppendIntPublic10
import Derived.DeepKeys4
set_option linter.all false
open Option renaming some→Ac,none→C7
open Bool renaming false→Ap,true→Br
open Go renaming Value→BU,Operand→Dc,TypeId→Ee,Program→Ge,World→GD,execOp→ID,Oper→J5,IntKind→Kj
namespace Go
abbrev AI:=@Nat.eq_of_beq_eq_true
abbrev AN:=@List.getElem_mem
abbrev AS:=@Bool.and_eq_true
abbrev AT:=@List.mem_append
abbrev By:=@List.mem_map
abbrev BY:=@List.getElem?_eq_getElem
abbrev GB:=@Classical.byContradiction
abbrev IS:=@List.getD_eq_getElem?_getD
abbrev IT:=@List.take_succ_eq_append_getElem
abbrev No:=@List.getElem?_eq_some_iff
abbrev OF:=@List.all_eq_true
abbrev Pd:=@List.length_append
abbrev Pe:=@Option.map_eq_some_iff
abbrev Aaa:=@List.getElem?_append_left
abbrev Aab:=@List.getElem?_append_right
abbrev Aac:=@List.mem_flatMap
abbrev Aad:=@Nat.le_refl
abbrev Aae:=@List.length_eq_zero_iff
abbrev Aaf:=@List.mem_singleton
abbrev Aag:=@List.mem_cons_of_mem
abbrev Aah:=@List.length_map
abbrev Aai:=@List.mem_of_getElem?
abbrev Aaj:=@List.mem_cons_self
abbrev Aak:=@Nat.lt_or_ge
abbrev Aam:=@List.append_assoc
abbrev Aan:=@List.map_append
abbrev Aao:=@List.map_map
abbrev Aap:=@List.map_cons
abbrev Aar:=@Nat.le_trans
abbrev Aas:=@List.length_take
abbrev Aat:=@List.getElem_of_mem
abbrev Aau:=@List.take_length
abbrev Aav:=@List.length_cons
abbrev Aaw:=@List.drop_eq_getElem_cons
abbrev Aax:=@List.mem_filter
abbrev Aay:=@List.mem_cons
abbrev Aaz:=@Int.toNat_of_nonneg
abbrev Aba:=@Nat.le_of_ble_eq_true
abbrev Abb:=@List.mem_range
abbrev Abc:=@List.eq_nil_of_length_eq_zero
abbrev Abd:=@List.pairwise_iff_getElem
abbrev Abe:=@Nat.ne_of_beq_eq_false
abbrev Abf:=@List.drop_of_length_le
abbrev Abg:=@List.pairwise_append
abbrev Abh:=@Nat.zero_le
abbrev Abi:=@Nat.zero_add
abbrev Abj:=@Nat.mul_le_mul_right
abbrev Abk:=@List.pairwise_cons
abbrev Abl:=@List.nodup_cons
abbrev Abm:=@List.take_of_length_le
abbrev Abn:=@Int.le_refl
abbrev Abo:=@Option.some.inj
abbrev Abp:=@List.nil_append
abbrev Abq:=@Int.toNat_natCast
abbrev Abr:=@Option.isSome_iff_exists
abbrev Abs:=@Nat.lt_of_lt_of_le
abbrev Abt:=@List.map_congr_left
abbrev Abu:=@List.mem_append_left
abbrev Abv:=@List.mem_of_find?_eq_some
abbrev Abx:=@List.getElem?_map
abbrev Abz:=@Nat.lt_of_not_le
abbrev Acb:=@List.foldl_append
abbrev Acd:=@List.any_eq_true
abbrev Ace:=@List.take_append_drop
abbrev Acf:=@List.mem_append_right
abbrev Acg:=@List.flatMap_append
abbrev Ach:=@List.mem_of_mem_take
abbrev Aci:=@Nat.mul_le_mul
abbrev Acj:=@List.getElem?_eq_none
abbrev Ack:=@List.take_append_of_le_length
abbrev Acl:=@List.pairwise_singleton
abbrev Acm:=@Option.getD_some
abbrev Acn:=@List.length_set
abbrev Aco:=@List.take_append_getElem
abbrev Acp:=@List.length_singleton
abbrev Acq:=@List.length_replicate
abbrev Acr:=@Prod.ext
abbrev Acs:=@List.nodup_append
abbrev Acu:=@List.drop_append
abbrev Acv:=@List.filter_sublist
abbrev Acw:=@Nat.mul_comm
abbrev Acx:=@List.idxOf_lt_length_of_mem
abbrev Acy:=@Array.getElem?_eq_some_iff
abbrev Acz:=@List.find?_cons
abbrev Ada:=@List.map_nil
abbrev Adb:=@Nat.lt_trichotomy
abbrev Adc:=@List.append_nil
abbrev Ade:=@Nat.add_sub_cancel_left
abbrev Adf:=@List.getElem_map
abbrev Adg:=@List.getElem?_cons_succ
abbrev Adh:=@List.getElem?_eraseIdx
abbrev Adi:=@List.drop_drop
abbrev Adj:=@List.filterMap_cons
abbrev Adk:=@Option.map_some
abbrev Adl:=@Nat.min_eq_left
abbrev Adm:=@Nat.add_mul
abbrev Adn:=@List.foldl_cons
abbrev Ado:=@Bool.or_eq_true
abbrev Adp:=@List.mem_take_iff_getElem
abbrev Adq:=@List.set_append_right
abbrev Adr:=@List.find?_eq_none
abbrev Ads:=@List.ext_getElem
abbrev Adt:=@List.cons_append
abbrev Adu:=@Nat.add_assoc
abbrev Adv:=@List.pairwise_map
abbrev Adw:=@List.getElem?_set
abbrev Ady:=@List.length_nil
abbrev Adz:=@List.flatMap_singleton
abbrev Aea:=@Nat.mul_assoc
abbrev Aec:=@Nat.mod_eq_of_lt
abbrev Aed:=@List.take_append
abbrev Aee:=@Bool.false_eq_true
abbrev Aef:=@UInt8.lt_iff_toNat_lt
abbrev Aeg:=@List.getElem_append_right
abbrev Aeh:=@Bool.eq_iff_iff
abbrev Aei:=@Option.some.injEq
abbrev Aej:=@Nat.succ_mul
abbrev Aek:=@Nat.mul_one
abbrev Ael:=@Nat.lt_succ_of_lt
abbrev Aem:=@List.flatMap_cons
abbrev Aen:=@List.getElem_append_left
abbrev Aeo:=@List.length_pos_iff
abbrev Aep:=@List.take_zero
abbrev Aeq:=@List.find?_eq_some_iff_getElem
abbrev Aer:=@List.filter_cons
abbrev Aes:=@Int.mul_le_mul_of_nonneg_right
abbrev Aet:=@Nat.zero_mul
abbrev Aeu:=@List.mem_filterMap
abbrev Aev:=@List.length_pos_of_mem
abbrev Aew:=@List.length_eq_one_iff
abbrev Aex:=@List.getElem_range
abbrev Aey:=@List.getElem_idxOf
abbrev Aez:=@List.getElem?_take
abbrev Afa:=@List.filter_append
abbrev Afb:=@List.range_succ
abbrev Afc:=@Prod.mk.injEq
abbrev Afd:=@List.eq_nil_or_concat
abbrev Afe:=@List.idxOf_append
abbrev Aff:=@Bool.not_eq_true'
abbrev Afg:=@Array.getD_eq_getD_getElem?
abbrev Afh:=@List.reverse_reverse
abbrev Afi:=@List.drop_zero
abbrev Afj:=@Int.lt_or_le
abbrev Afk:=@List.getElem?_drop
abbrev Afl:=@Nat.le_mul_of_pos_right
abbrev Afm:=@List.head_eq_of_cons_eq
abbrev Afn:=@List.getElem?_replicate
abbrev Afo:=@And.right
abbrev Afp:=@List.set_eq_take_append_cons_drop
abbrev Afs:=@List.reverse_cons
abbrev Aft:=@List.exists_of_findSome?_eq_some
abbrev Afw:=@List.singleton_append
abbrev Afx:=@Bool.and_eq_false_iff
abbrev Afy:=@Nat.lt_succ_self
abbrev Afz:=@List.drop_length
abbrev Aga:=@List.map_id
abbrev Agb:=@List.drop_append_of_le_length
abbrev Agc:=@Array.size_replicate
abbrev Agd:=@List.any_append
abbrev Age:=@List.flatten_append
abbrev Agg:=@UInt8.toNat_ofNat'
abbrev Agh:=@Nat.lt_of_le_of_lt
abbrev Agi:=@Nat.eq_zero_or_pos
abbrev Agj:=@List.nodup_nil
abbrev Agk:=@List.findSome?_eq_none_iff
abbrev Agl:=@Int.tmod_lt_of_pos
abbrev Agm:=@List.getElem?_eq_none_iff
abbrev Agn:=@List.length_range
abbrev Ago:=@List.filter_congr
abbrev Agp:=@List.ext_getElem?
abbrev Ags:=@List.Pairwise.imp_of_mem
abbrev Agt:=@Option.bind_eq_some_iff
abbrev Agy:=@Nat.le_of_lt
abbrev Agz:=@Nat.beq_refl
abbrev Aha:=@Nat.add_zero
abbrev Ahb:=@Int.not_lt
abbrev Ahc:=@Nat.div_add_mod
abbrev Ahd:=@List.cons.injEq
abbrev Ahe:=@Int.tmod_nonneg
abbrev Ahg:=@List.length_filter_le
abbrev Ahh:=@Nat.pow_le_pow_right
abbrev Ahi:=@List.take_take
abbrev Ahj:=@List.range_eq_range'
abbrev Ahk:=@List.mem_erase_of_ne
abbrev Ahl:=@List.drop_take
abbrev Ahr:=@List.findSome?_cons
abbrev Ahs:=@Array.length_toList
abbrev Aht:=@Bool.true_and
abbrev Ahu:=@Bool.not_true
abbrev Ahv:=@Bool.false_or
abbrev Aij:=@List.set_cons_zero
abbrev Ajd:=@Prod.ext_iff
abbrev Aje:=@Nat.sub_self
abbrev Ajf:=@Int.le_total
abbrev Ajg:=@Array.all_eq_true_iff_forall_mem
abbrev Ajh:=@And.left
abbrev Aju:=@Array.getElem?_setIfInBounds_ne
abbrev Ajy:=@Nat.le_of_not_lt
abbrev Ajz:=@Nat.le_max_right
abbrev Aka:=@List.length_drop
abbrev Akb:=@Nat.le_succ
abbrev Aln:=@Option.map_none
abbrev Alo:=@Nat.le_max_left
abbrev Alp:=@Nat.le_antisymm
abbrev Alq:=@List.filter_map
abbrev Alr:=@List.append_inj
abbrev Als:=@List.foldl_nil
abbrev Alu:=@List.find?_nil
abbrev Alv:=@List.drop_left
abbrev Alw:=@List.length_erase_of_mem
abbrev Alx:=@List.all_cons
abbrev Aly:=@Bool.or_false
abbrev Alz:=@Bool.and_true
abbrev Ama:=@List.getLast?_singleton
abbrev Amb:=@List.getElem?_cons_zero
abbrev Amc:=@List.filter_cons_of_pos
abbrev Amd:=@List.filter_cons_of_neg
abbrev Ame:=@BitVec.eq_of_getLsbD_eq
theorem rf{α:Sort _}{a:α}:a=a:=rfl
end Go
namespace Go.GK
section
variable{a:Act}{n:Nat}{L:List (Nat×BU)}
def lk:List (Nat×BU)->Nat->Option BU
 | [],_=>C7
 |(k,v)::l,t=>match Nat.beq k t with
  |true=>Ac v
  |false=>lk l t
structure Fr(a:Act)(n:Nat)(L:List (Nat×BU)):Prop where
 defers:a.defers=[]
 size:a.tmps.size=n
 get:∀t v,lk L t=Ac v->a.tmps.getD t undef=v
theorem Fr.put(h:Fr a n L){d:Nat}(i:Nat.blt d n=Br)(v:BU):Fr (a.put (Ac d) v) n ((d,v)::L):=by
 have f:d<n:=by simpa using i
 refine⟨h.defers,by simp[Act.put,h.size],λt u b=>?_⟩;simp only[lk]at b;simp only[Act.put];cases c:Nat.beq d t with
 |true=>
  have e:d=t:=AI c;subst e;rw[c]at b;have g:v=u:=by simpa using b
  subst g;simp[h.size,f]
 |false=>
  rw[c]at b;have ne:d≠t:=Abe c;have:=h.get t u b;simp only[Afg]at this⊢;rw[Aju ne];exact this
def ev(L:List (Nat×BU)):Dc->Option BU
 | .tmp t=>lk L t
 | .const v=>Ac v
 | .global g=>Ac (.pointer (Ac ⟨g,0,C7⟩))
 | .func f=>Ac (.func (.func f) #[] #[])
theorem Fr.eval(h:Fr a n L){x:Dc}{v:BU}(b:ev L x=Ac v):a.eval x=v:=by
 cases x with
 |tmp t=>exact h.get t v b
 |const u=>simpa [ev,Act.eval]using b
 |global g=>simpa [ev,Act.eval]using b
 |func f=>simpa [ev,Act.eval]using b
def evl(L:List (Nat×BU)):List Dc->Option (List BU)
 | []=>Ac []
 |x::xs=>match ev L x,evl L xs with
  |some v,Ac vs=>Ac (v::vs)
  |_,_=>C7
structure Hp where
 at_:Nat->Option Obj
 os:Os
 output:Array (Nat×ByteArray)
 tape:Nat->Question->Nat
end
def Hp.le(H a:Hp):Prop:=(∀b o,H.at_ b=Ac o->a.at_ b=Ac o)/\a.os=H.os/\a.output=H.output/\a.tape=H.tape
theorem Hp.le.refl(H:Hp):H.le H:=⟨λ_ _ h=>h,rfl,rfl,rfl⟩
theorem Hp.le.trans{A B C:Hp}(h:A.le B)(k:B.le C):A.le C:=⟨λb o x=>k.1 b o (h.1 b o x),k.2.1.trans h.2.1,k.2.2.1.trans h.2.2.1,k.2.2.2.trans h.2.2.2⟩
inductive Av where
 |Ah (b:Nat) (o:Obj)
 |row (v:BU) (e:Ee) (size n:Nat) (xs:List BU)
 |emp
 |own (b:Nat) (C:GD->Prop) (lt:∀w,C w->b<w.heap.size) (kept:∀w w' row,C w->w.grownBy w' row->row≠Ac b->C w')
 |Ep (v:BU) (e:Ee) (n:Nat) (xs:List BU) (e':Ee) (sz:Nat) (rows:List (Option (Nat×List BU)))
def Av.block:Av->Option Nat
 | .Ah b _=>Ac b
 | .row v .. =>v.ownBlock
 | .emp=>C7
 | .own b .. =>Ac b
 | .Ep .. =>C7
def Av.has:Av->Nat->Prop
 | .Ah c _,b=>c=b
 | .row v ..,b=>v.ownBlock=Ac b
 | .emp,_=>False
 | .own c ..,b=>c=b
 | .Ep v _ _ xs _ _ a,b=>v.ownBlock=Ac b\/∃(i:Nat) (u:BU) (m:Nat) (ys:List BU),xs[i]?=Ac u/\a[i]?=Ac (Ac (m,ys))/\u.ownBlock=Ac b
section
variable{r:Av}{b:Nat}
theorem Akn(h:r.block=Ac b):r.has b:=by cases r<;>simp_all [Av.block,Av.has]
theorem Agf{c:Nat}(h:r.block=Ac b)(k:r.has c):c=b:=by cases r<;>simp_all [Av.block,Av.has]
structure Is(w:GD)(v:BU)(e:Ee)(n:Nat)(xs:List BU)(e':Ee)(sz:Nat)(rows:List (Option (Nat×List BU))):Prop where
 top:w.ownsRow 0 e 1 v n xs
 row:∀(i:Nat) (u:BU) (m:Nat) (ys:List BU),xs[i]?=Ac u->rows[i]?=Ac (Ac (m,ys))->w.ownsRow 0 e' sz u m ys
 one:∀(i j:Nat) (u u':BU) (m m':Nat) (ys ys':List BU) (b:Nat),xs[i]?=Ac u->rows[i]?=Ac (Ac (m,ys))->xs[j]?=Ac u'->rows[j]?=Ac (Ac (m',ys'))->u.ownBlock=Ac b->u'.ownBlock=Ac b->i=j
 out:∀(i:Nat) (u:BU) (m:Nat) (ys:List BU) (b:Nat),xs[i]?=Ac u->rows[i]?=Ac (Ac (m,ys))->u.ownBlock=Ac b->v.ownBlock≠Ac b
def Av.ok(w:GD):Av->Prop
 | .Ah b o=>w.heap[b]?=Ac o
 | .row v e size n xs=>w.ownsRow 0 e size v n xs
 | .emp=>True
 | .own _ C _ _=>C w
 | .Ep v e n xs d sz a=>Is w v e n xs d sz a
end
section
variable{w:GD}{H:Hp}{O:List Av}{r:Av}{w':GD}{i b:Nat}{row:Option Nat}{r':Av}
structure SH(w:GD)(H:Hp)(O:List Av):Prop where
 Ny:∀b o,H.at_ b=Ac o->w.heap[b]?=Ac o
 os:w.os=H.os
 output:w.output=H.output
 tape:w.tape=H.tape
 ok:∀(i:Nat) (r:Av),O[i]?=Ac r->r.ok w
 JC:∀(i:Nat) (r:Av) (b:Nat),O[i]?=Ac r->r.has b->H.at_ b=C7
 nd:∀(i j:Nat) (r r':Av) (b:Nat),O[i]?=Ac r->O[j]?=Ac r'->r.has b->r'.has b->i=j
theorem Av.ok.lt(h:r.ok w)(a:r.has b):b<w.heap.size:=by
 cases r with
 |Ah c o=>
  have a:c=b:=a;subst a;exact(Acy.1 h).1
 |row v e size n q=>exact(GD.ownsRow.lt h b a).2
 |emp=>exact a.elim
 |own c C lt d=>
  have a:c=b:=a;subst a;exact lt w h
 |Ep v e n q t x f=>
  rcases a with a|⟨i,u,m,s,l,p,a⟩;· exact(GD.ownsRow.lt (Is.top h) b a).2
  ·exact(GD.ownsRow.lt (Is.row h i u m s l p) b a).2
theorem Av.ok.grown(h:r.ok w)(c:w.grownBy w' row)(a:∀b,r.has b->row≠Ac b):r.ok w':=by
 cases r with
 |Ah b o=>
  have g:=Av.ok.lt h (b:=b) rfl;show w'.heap[b]?=Ac o;rw[c.block b g (λe=>a b rfl e.symm)];exact h
 |row v e size n x=>
  refine GD.ownsRow.kept h c ?_;cases d:v.ownBlock with
  |none=>exact .inl rfl
  |some b=>exact .inr (λe=>a b d e.symm)
 |emp=>trivial
 |own b C lt f=>exact f w w' row h c (a b rfl)
 |Ep v e n x y z l=>
  refine⟨GD.ownsRow.kept (Is.top h) c ?_,λi u m p j k=>GD.ownsRow.kept (Is.row h i u m p j k) c ?_,Is.one h,Is.out h⟩;· cases d:v.ownBlock with
   |none=>exact .inl rfl
   |some b=>exact .inr (λe=>a b (.inl d) e.symm)
  ·cases d:u.ownBlock with
   |none=>exact .inl rfl
   |some b=>exact .inr (λe=>a b (.inr ⟨i,u,m,p,j,k,d⟩) e.symm)
theorem SH.lt(h:SH w H O){o:Obj}(a:H.at_ b=Ac o):b<w.heap.size:=(Acy.1 (h.Ny b o a)).1
theorem SH.grown(h:SH w H O)(hg:w.grownBy w' C7):SH w' H O where
 Ny b o hb:=by rw[hg.block b (h.lt hb) (by simp)];exact h.Ny b o hb
 os:=hg.os.trans h.os
 output:=hg.output.trans h.output
 tape:=hg.tape.trans h.tape
 ok i r hr:=(h.ok i r hr).grown hg (by simp)
 JC:=h.JC
 nd:=h.nd
theorem SH.drew(h:SH w H O):SH {w with drawn:=w.drawn+1} H O where
 Ny:=h.Ny
 os:=h.os
 output:=h.output
 tape:=h.tape
 ok i r hr:=by
  have:=h.ok i r hr;cases r with
  |own b C lt kept=>exact kept w _ C7 this ⟨rfl,rfl,rfl,Aad _,λ_ _ _=>rfl⟩ (by simp)
  |Ep v e n xs e' sz rows=>
   have t:Is w v e n xs e' sz rows:=this;exact⟨t.top,t.row,t.one,t.out⟩
  |_=>exact this
 JC:=h.JC
 nd:=h.nd
theorem BD{α:Type}{x y:α}{l:List α}(h:(x::l)[i]?=Ac y):(i=0/\y=x)\/∃j,i=j+1/\l[j]?=Ac y:=by
 cases i with
 |zero=>left;simp at h;exact⟨rfl,h.symm⟩
 |succ j=>right;exact⟨j,rfl,by simpa using h⟩
theorem SH.push(h:SH w H O)(hg:w.grownBy w' C7)(hr:r.ok w')(hnew:∀b,r.has b->w.heap.size<=b):SH w' H (r::O)where
 Ny b o hb:=by rw[hg.block b (h.lt hb) (by simp)];exact h.Ny b o hb
 os:=hg.os.trans h.os
 output:=hg.output.trans h.output
 tape:=hg.tape.trans h.tape
 ok i s hs:=by
  rcases BD hs with⟨rfl,rfl⟩|⟨j,rfl,hj⟩;· exact hr
  ·exact(h.ok j s hj).grown hg (by simp)
 JC i s b hs hb:=by
  rcases BD hs with⟨rfl,rfl⟩|⟨j,rfl,hj⟩;· cases he:H.at_ b with
   |none=>rfl
   |some o=>have:=h.lt he;have:=hnew b hb;omega
  ·exact h.JC j s b hj hb
 nd i j s s' b hi hj hb hb':=by
  rcases BD hi with⟨rfl,rfl⟩|⟨i',rfl,hi'⟩
  ·rcases BD hj with⟨rfl,rfl⟩|⟨j',rfl,hj'⟩;· rfl
   ·have:=(h.ok j' s' hj').lt hb';have:=hnew b hb;omega
  ·rcases BD hj with⟨rfl,rfl⟩|⟨j',rfl,hj'⟩;· have:=(h.ok i' s hi').lt hb;have:=hnew b hb';omega
   ·rw[h.nd i' j' s s' b hi' hj' hb hb']
theorem SH.alloc(h:SH w H O)(o:Obj):SH (w.alloc o) H (.Ah w.heap.size o::O):=
 h.push (GD.grownBy_alloc w o C7) (heap_alloc_new w o) (λb c=>by simp only[Av.has]at c;omega)
theorem SH.uL(h:SH w H O)(hi:O[i]?=Ac r)(m:∀b,row=Ac b->r.has b)(q:w.grownBy w' row)
  (D:r'.ok w') (p:∀b,r'.has b->r.has b\/w.heap.size<=b):SH w' H (O.set i r'):=by
 have t:i<O.length:=(No.1 hi).1;have key:∀j s,(O.set i r')[j]?=Ac s->(j=i/\s=r')\/(j≠i/\O[j]?=Ac s):=λj s f=>by
  rw[Adw]at f;by_cases e:i=j;· subst e;simp[t]at f;exact .inl ⟨rfl,f.symm⟩
  ·simp[e]at f;exact .inr ⟨λx=>e x.symm,f⟩
 have n:∀b,r'.has b->H.at_ b=C7:=λb g=>by
  rcases p b g with g|g;· exact h.JC i r b hi g
  ·cases C:H.at_ b with
   |none=>rfl
   |some o=>have:=h.lt C;omega
 refine⟨λb o l=>?_,q.os.trans h.os,q.output.trans h.output,q.tape.trans h.tape,λj s f=>?_,λj s b f c=>?_,λj k s u b f a c d=>?_⟩;· rw[q.block b (h.lt l) (λe=>by rw[h.JC i r b hi (m b e.symm)]at l;cases l)];exact h.Ny b o l
 ·rcases key j s f with⟨rfl,rfl⟩|⟨y,a⟩;· exact D
  ·exact(h.ok j s a).grown q (λb p e=>y (h.nd j i s r b a hi p (m b e)))
 ·rcases key j s f with⟨rfl,rfl⟩|⟨y,a⟩;· exact n b c
  ·exact h.JC j s b a c
 ·rcases key j s f with⟨rfl,rfl⟩|⟨y,A⟩
  ·rcases key k u a with⟨rfl,rfl⟩|⟨B,v⟩;· rfl
   ·exfalso;rcases p b c with e|e;· exact B (h.nd k j u r b v hi d e)
    ·have:=(h.ok k u v).lt d;omega
  ·rcases key k u a with⟨rfl,rfl⟩|⟨B,v⟩
   ·exfalso;rcases p b d with e|e;· exact y (h.nd j k s r b A hi c e)
    ·have:=(h.ok j s A).lt c;omega
   ·exact h.nd j k s u b A v c d
theorem SH.set(h:SH w H O)(hi:O[i]?=Ac r)(c:w.grownBy w' r.block)
 (d:r'.ok w') (a:∀b,r'.has b->r.has b\/w.heap.size<=b):SH w' H (O.set i r'):=h.uL hi (λ_ h=>Akn h) c d a
def Hp.put(H:Hp)(b:Nat)(o:Obj):Hp:= {H with at_:=λc=>if c=b then Ac o else H.at_ c}
end
section
variable{w:GD}{H:Hp}{O:List Av}
theorem SH.drop(h:SH w H O)(i:Nat):SH w H (O.eraseIdx i)where
 Ny:=h.Ny
 os:=h.os
 output:=h.output
 tape:=h.tape
 ok j r hr:=by
  rw[Adh]at hr;split at hr;· exact h.ok _ _ hr
  ·exact h.ok _ _ hr
 JC j r b hr hb:=by
  rw[Adh]at hr;split at hr;· exact h.JC _ _ b hr hb
  ·exact h.JC _ _ b hr hb
 nd j k r r' b hr hr' hb hb':=by
  rw[Adh]at hr hr';split at hr<;>split at hr';· exact h.nd _ _ _ _ b hr hr' hb hb'
  ·have:=h.nd _ _ _ _ b hr hr' hb hb';omega
  ·have:=h.nd _ _ _ _ b hr hr' hb hb';omega
  ·have:=h.nd _ _ _ _ b hr hr' hb hb';omega
theorem SH.LD(h:SH w H O){i:Nat}{r:Av}(hi:O[i]?=Ac r){b:Nat}(g:r.has b){o:Obj}(m:w.heap[b]?=Ac o):
  H.le (H.put b o)/\SH w (H.put b o) (O.eraseIdx i):=by
 have d:=h.JC i r b hi g;have k:=h.drop i;refine⟨⟨λc l a=>?_,rfl,rfl,rfl⟩,⟨λc l a=>?_,h.os,h.output,h.tape,k.ok,λj s c f a=>?_,k.nd⟩⟩
 ·simp only[Hp.put];by_cases e:c=b;· subst e;rw[d]at a;cases a
  ·simp[e,a]
 ·simp only[Hp.put]at a;by_cases e:c=b;· subst e;simp at a;subst a;exact m
  ·simp[e]at a;exact h.Ny c l a
 ·simp only[Hp.put];have:c≠b:=λe=>by
   subst e;rw[Adh]at f;split at f;· have:=h.nd _ _ _ _ c f hi a g;omega
   ·have:=h.nd _ _ _ _ c f hi a g;omega
  simp[this,k.JC j s c f a]
theorem SH.pick{a:List Av}(h:SH w H O)(f:Nat->Nat)(hf:∀i r,a[i]?=Ac r->O[f i]?=Ac r)
  (hinj:∀i j,i<a.length->j<a.length->f i=f j->i=j):SH w H a where
 Ny:=h.Ny
 os:=h.os
 output:=h.output
 tape:=h.tape
 ok i r hr:=h.ok _ _ (hf i r hr)
 JC i r b hr hb:=h.JC _ _ b (hf i r hr) hb
 nd i j r r' b hr hr' hb hb':=hinj i j (No.1 hr).1 (No.1 hr').1 (h.nd _ _ _ _ b (hf i r hr) (hf j r' hr') hb hb')
def At(Q:Exit->Act->GD->Prop)(e:Exit)(n:Nat)(L:List (Nat×BU))(H:Hp)(O:List Av):Prop:= ∀a w,Fr a n L->SH w H O->Q e a w
def Wp(P:Ge)(c:Code)(Q:Exit->Act->GD->Prop)(n:Nat)(L:List (Nat×BU))(H:Hp)(O:List Av):Prop:= ∀a w,Fr a n L->SH w H O->c.wp P Q a w
def ES(P:Ge)(c:Array J5)(Q:Exit->Act->GD->Prop)(b:List J5)(n:Nat)(L:List (Nat×BU))(H:Hp)(O:List Av):Prop:= ∀a w,Fr a n L->SH w H O->wpList P c Q b a w
end
section
variable {P : Ge} {Q Q2 : Exit -> Act -> GD -> Prop} {n : Nat} {L L' : List (Nat × BU)} {H : Hp} {O : List Av}
section
variable{y x:Code}{c:Dc}{a:Act}{v:BU}{b:List J5}{d:Array J5}{T:Ee}
theorem Aic(h:Wp P y Q n L H O):At (Exit.then (y.wp P Q) Q2) .normal n L H O:=h
theorem Wp.seq(h:Wp P x (Exit.then (y.wp P Q) Q) n L H O):Wp P (.seq x y) Q n L H O:=λa w b c=>wp_seq (h a w b c)
theorem Wp.skip(h:At Q .normal n L H O):Wp P .skip Q n L H O:=λa w b c=>wp_skip (h a w b c)
theorem Akc(e:ev L c=Ac (.bool Br))(ht:Wp P x Q n L H O):Wp P (.cond c x y) Q n L H O:=
 λa w b d=>wp_cond_true (b.eval e) (ht a w b d)
theorem Aji(e:ev L c=Ac (.bool Ap))(ht:Wp P y Q n L H O):Wp P (.cond c x y) Q n L H O:=
 λa w b d=>wp_cond_false (b.eval e) (ht a w b d)
theorem Wp.region{id:Nat}{l:List J5}(h:ES P l.toArray Q l n L H O):Wp P (.region id l.toArray Ap) Q n L H O:=
 λa w b c=>wp_region_lit (h a w b c)
theorem ES.nil{a:Array J5}(h:At Q .normal n L H O):ES P a Q [] n L H O:=h
def Aq(P:Ge)(op:Op)(T:Ee)(E:Dc->Option BU)(H:Hp)(O:List Av)(v:BU):Prop:= ∀(a:Act) (w:GD) (o:J5),o.op=op->o.type=T->(∀x u,E x=Ac u->a.eval x=u)->SH w H O->o.quietAt P a (λw'=>SH w' H O) w v
theorem Afq{o:J5}{w:GD}{C:GD->Prop}{next:Act->GD->Prop}
  (b:o.quietAt P a C w v) (c:C w) (h:∀w',C w'->next (a.put o.dst v) w'):o.wp P a w next Q:=by
 unfold J5.quietAt J5.quietUpon at b;unfold J5.wp;split at b<;>rename_i heq<;>(try rw[heq]);· obtain⟨rfl,rfl⟩:=b;exact h _ c
 ·obtain⟨rfl,rfl⟩:=b;exact h _ c
 ·obtain⟨rfl,b⟩:=b;refine b.mono ?_;rintro e w' ⟨rfl,d⟩;exact h _ d
 ·exact b.elim
def BJ(P:Ge)(op:Op)(T:Ee)(E:Dc->Option BU)(H:Hp)(O:List Av)(R:BU->Hp->List Av->Prop):Prop:= ∀(a:Act) (w:GD) (o:J5) (next:Act->GD->Prop) (Q:Exit->Act->GD->Prop),o.op=op->o.type=T->(∀x u,E x=Ac u->a.eval x=u)->SH w H O->(∀v w' b c,H.le b->R v b c->SH w' b c->next (a.put o.dst v) w')->o.wp P a w next Q
theorem ES.op{c:Array J5}{d:Tmp}{op:Op}{pos:String}{i:Array Edge}
  (h:Aq P op T (ev L) H O v) (l:Nat.blt d n=Br) (k:ES P c Q b n ((d,v)::L) H O):
  ES P c Q ({dst:=Ac d,op,type:=T,pos,after:=i,guard:=C7} ::b) n L H O:=λa w f g=>
 wpList_plain rfl λK j=>Afq (h a w _ rfl rfl (λ_ _ m=>f.eval m) g) g λo e=>j _ _ (k _ _ (f.put l v) e)
theorem ES.opS0{op:Op}{pos:String}{j:Array Edge}{R:BU->Hp->List Av->Prop}
  (h:BJ P op T (ev L) H O R) (k:∀v c e,H.le c->R v c e->ES P d Q b n L c e):
  ES P d Q ({dst:=C7,op,type:=T,pos,after:=j,guard:=C7} ::b) n L H O:=λa w i o=>
 wpList_plain rfl λK l=>h a w _ K Q rfl rfl (λ_ _ p=>i.eval p) o λv q c e f m g=>l _ _ (k v c e f m _ _ i g)
def BG(a:Array J5)(j:Nat):Option Tmp:=(a[j]?).bind (·.dst)
theorem Gd{j:Nat}{t:Tmp}{b:Bool}(e:BG d j=Ac t)(c:a.tmps.getD t undef= .bool b):yielded d a.tmps j=Ac b:=by
 unfold BG at e;unfold yielded;rw[e];have:a.tmps[t]?=Ac (.bool b):=by
  rw[Afg]at c;cases h:a.tmps[t]? with
  |none=>rw[h]at c;simp[undef]at c
  |some u=>rw[h]at c;simp at c;rw[c]
 simp[this]
end
end
abbrev SP:=Hp->BU->Prop
def names(a:Array J5)(o:J5):List Tmp:=o.dst.toList++o.looksAt a
def meets(a:Array J5)(x y:J5):Bool:=
 (match x.dst with|some d=>(names a y).any (Nat.beq d)|none=>Ap)||(match y.dst with|some d=>(names a x).any (Nat.beq d)|none=>Ap)
def GH:Nat->List J5->Bool
 |_,[]=>Br
 |i,o::os=>(o.after.all λe=> !Region.binds .any e||Nat.blt e.on i)&&GH (i+1) os
def VL(o:J5)(i:Nat):Bool:=o.after.any λe=>Region.binds .any e&&Nat.beq e.on i
def mO(a:Array J5):Nat->J5->Nat->Bool
 |0,o,i=>VL o i
 |f+1,o,i=>VL o i||o.after.any λe=>Region.binds .any e&&((a[e.on]?).map λx=>mO a f x i).getD Ap
def TA(a:Array J5)(k j:Nat)(o:J5):Nat->List J5->Bool
 |_,[]=>Br
 |i,x::xs=>(Nat.ble j i||((!(meets a x o)&&Nat.blt j k)||mO a 8 o i))&&TA a k j o (i+1) xs
def Ft(l:List J5)(a:Array J5)(k:Nat):Nat->List J5->Bool
 |_,[]=>Br
 |j,o::os=>TA a k j o 0 l&&Ft l a k (j+1) os
theorem Nc:∀ {l:List J5} {i:Nat},GH i l=Br->∀(j:Nat) (o:J5),l[j]?=Ac o->∀e∈o.after,Region.binds .any e=Br->e.on<i+j
 | [],_,_,j,o,h=>by simp at h
 |x::f,i,c,j,o,h=>by
  simp only[GH,AS]at c;cases j with
  |zero=>
   simp at h;subst h;intro e d a;have:=(Ajg.1 c.1) e d;simp[a]at this;omega
  |succ j=>
   intro e d a;have:=Nc c.2 j o (by simpa using h) e d a;omega
def cur(l:List J5)(Φ:Nat->SP)(S:Nat->SP)(a:Nat->Bool)(t:Nat):Nat->SP
 |0=>Φ t
 |i+1=>if a i=Br/\((l[i]?).bind (·.dst))=Ac t then S i else cur l Φ S a t i
section
variable {P : Ge} {Q : Exit -> Act -> GD -> Prop}
section
variable{a:Array J5}{o:J5}{t:Tmp}
theorem Ey(h:t∈o.looksAt a):(names a o).any (Nat.beq t)=Br:=by simp only[names,Agd,Ado];exact .inr (Acd.2 ⟨t,h,by simp⟩)
theorem Kh(h:o.dst=Ac t):(names a o).any (Nat.beq t)=Br:=by simp[names,h]
def AH(p:Nat->Bool):Nat->Nat
 |0=>0
 |m+1=>AH p m+if p m then 0 else 1
theorem Sq{p:Nat->Bool} :∀ {m:Nat},AH p m=0->∀i,i<m->p i=Br
 |0,_,i,h=>by omega
 |m+1,a,i,h=>by
  simp only[AH]at a;by_cases e:i=m;· subst e;cases b:p i with
   |true=>rfl
   |false=>rw[b]at a;simp at a
  ·exact Sq (p:=p) (m:=m) (by omega) i (by omega)
theorem Ss{p q:Nat->Bool} :∀ {m:Nat},(∀i,i<m->p i=q i)->AH p m=AH q m
 |0,_=>rfl
 |m+1,h=>by simp only[AH];rw[h m (by omega),Ss λi a=>h i (by omega)]
theorem V0{p q:Nat->Bool}{i:Nat} :∀ {m:Nat},i<m->p i=Ap->q i=Br->(∀j,j≠i->q j=p j)->AH p m=AH q m+1
 |0,h,_,_,_=>by omega
 |m+1,h,b,c,a=>by
  simp only[AH];by_cases e:i=m;· subst e;rw[b,c,Ss (p:=p) (q:=q) λj d=>(a j (by omega)).symm];simp
  ·rw[V0 (m:=m) (by omega) b c a,a m (λx=>e x.symm)];omega
end
end
section
variable{w:GD}{size:Nat}{H:Hp}{t:Ee}{P:Ge}{O:List Av}{u v:BU}{n:Nat}{xs:List BU}{i bytes:Nat}{z:BU}{e:Ee}{d:TypeDesc}{b:Hp}{p:BU}
inductive SV where
 |is (v:BU)
 |sat (p:SP)
theorem AU(h:P.underlying t=Ac d):(underlying t).run P w= .ok d w:=run_underlying h w
structure TI(P:Ge)(t:Ee)(size bytes:Nat)(z:BU):Prop where
 ex:∃i,P.info? t=Ac i/\i.size=size/\i.bytes=bytes/\i.zero=Ac z
theorem TI.of(h:(P.info? t).map (λi=>(i.size,i.bytes,i.zero))=Ac (size,bytes,Ac z)):TI P t size bytes z:=by
 cases a:P.info? t with
 |none=>simp[a]at h
 |some i=>simp[a]at h;exact⟨i,a,h.1,h.2.1,h.2.2⟩
theorem TI.sizeOf(h:TI P t size bytes z):(Go.sizeOf t).run P w= .ok size w:=by obtain⟨i,b,a,_⟩:=h.ex;simp[Go.sizeOf,typeInfo,b,a]
theorem TI.zeroValue(h:TI P t size bytes z):(Go.zeroValue t).run P w= .ok z w:=by obtain⟨i,b,_,_,a⟩:=h.ex;simp[Go.zeroValue,typeInfo,b,a]
def DC:TypeDesc->Bool
 | .struct _=>Br
 | .array _ _=>Br
 |_=>Ap
theorem Cc(h:P.underlying t=Ac d):(isAgg t).run P w= .ok (DC d) w:=by simp[isAgg,AU h];cases d<;>simp[DC]
def ptr(b off:Nat):BU:= .pointer (Ac ⟨b,off,C7⟩)
def AO(v:BU)(k:Nat):BU:=match v with
 | .slice (Ac a) _ _=> .pointer (Ac (a.add k))
 |_=>undef
theorem C5(a:Addr)(m n:Nat):(a.add m).add n=a.add (m+n):=by
 unfold Addr.add;by_cases b:m=0;· subst b;simp
 ·by_cases c:n=0;· subst c;simp
  ·simp[b,c,Adu]
def DG(H:Hp)(p:BU)(u:BU):Prop:= ∃a cur t b,p= .pointer (Ac a)/\a.spot=C7/\H.at_ a.block=Ac (.cells cur t b)/\cur[a.off]?=Ac u
def SQ(v:BU)(n:Nat):Prop:=(v= .slice C7 0 0/\n=0)\/∃a cap,v= .slice (Ac a) n cap/\n<=cap
structure Sl(H:Hp)(v:BU)(size n:Nat)(xs:List BU):Prop where
 len:xs.length=n*size
 sl:SQ v n
 cells:∀j u,xs[j]?=Ac u->DG H (AO v j) u
theorem DG.mono(h:H.le b)(i:DG H p u):DG b p u:=by obtain⟨a,cur,t,c,d,e,f,g⟩:=i;exact⟨a,cur,t,c,d,e,h.1 _ _ f,g⟩
theorem Sl.mono(h:H.le b)(a:Sl H v size n xs):Sl b v size n xs:=
 ⟨a.len,a.sl,λj u c=>(a.cells j u c).mono h⟩
theorem Sl.nil(H:Hp)(size:Nat):Sl H (.slice C7 0 0) size 0 []:=⟨by simp, .inl ⟨rfl,rfl⟩,λj u h=>by simp at h⟩
theorem DG.cell(g:SH w H O)(f:DG H p u):∃a,p= .pointer (Ac a)/\w.cell? a=Ac u:=by obtain⟨a,cur,t,h,b,c,d,e⟩:=f;exact⟨a,b,by simp[GD.cell?,g.Ny _ _ d,c,e]⟩
theorem SH.H4(c:SH w H O){B:Nat}{cs:Array BU}{b:Nat×Nat}(hi:O[i]?=Ac (.Ah B (.cells cs t b))){off:Nat}(d:cs[off]?=Ac u):
  w.cell? ⟨B,off,C7⟩=Ac u:=by
 have:=c.ok i _ hi;simp only[Av.ok]at this;simp[GD.cell?,this,d]
theorem SH.eJ(f:SH w H O)(hi:O[i]?=Ac (.row v e size n xs)){j:Nat}(c:xs[j]?=Ac u):
  ∃a,AO v j= .pointer (Ac a)/\a.spot=C7/\v.ownBlock=Ac a.block/\w.cell? a=Ac u/\w.frozen? a=Ap:=by
 have h:=f.ok i _ hi;simp only[Av.ok]at h;rcases h.2 with⟨rfl,rfl⟩|⟨g,cap,cur,rfl,_,d,_,_,_,b⟩;· have:xs=[]:=Abc (by simpa using h.1);subst this;simp at c
 ·have:=h.cells (g:=g) rfl j u c;rw[Addr.add_lit]at this;refine⟨⟨g,0+j,C7⟩,by simp only[AO,Addr.add_lit],rfl,rfl,this,?_⟩;simp[GD.frozen?,d]
theorem SH.Mj(b:SH w H O)(hi:O[i]?=Ac (.row v e size n xs)):SQ v n/\xs.length=n*size:=by
 have h:=b.ok i _ hi;simp only[Av.ok]at h;refine⟨?_,h.1⟩;rcases h.2 with⟨rfl,rfl⟩|⟨g,cap,cur,rfl,_,_,a,_⟩;· exact .inl ⟨rfl,rfl⟩
 ·exact .inr ⟨_,_,rf,a⟩
theorem SH.freeze(f:SH w H O)(hi:O[i]?=Ac (.row v e size n xs)):
  ∃d,H.le d/\SH w d (O.eraseIdx i)/\Sl d v size n xs:=by
 have h:=f.ok i _ hi;simp only[Av.ok]at h;rcases h.2 with⟨rfl,rfl⟩|⟨g,cap,cur,rfl,_,o,p,_,m,a⟩;· have:xs=[]:=Abc (by simpa using h.1);subst this;exact⟨H,Hp.le.refl H,f.drop i,Sl.nil H size⟩
 ·obtain⟨k,l⟩:=f.LD hi (b:=g) rfl o;refine⟨_,k,l,h.1, .inr ⟨_,_,rfl,p⟩,λj u c=>⟨⟨g,0+j,C7⟩,cur,e,(0,0),by simp only[AO,Addr.add_lit],rfl,by simp[Hp.put],?_⟩⟩;rw[<-a]at c;rw[Aez]at c;split at c;· simpa using c
  ·simp at c
end
section
variable {P : Ge} {T : Ee} {E : Dc -> Option BU} {H : Hp} {O : List Av}
section
variable{v:BU}{x c y:Dc}
theorem Aq.Am{op:Op}(h:∀(a:Act) (w:GD) (o:J5),o.op=op->o.type=T->(∀x u,E x=Ac u->a.eval x=u)->SH w H O->(ID a.eval o).run P w= .ok (.value v) w):Aq P op T E H O v:=by intro a w o d b c e;simp[J5.quietAt,h a w o d b c e,J5.quietUpon]
theorem Aq.move(e:E x=Ac v):Aq P (.move x) T E H O v:= .Am λa w o d _ c _=>by simp[ID,d,c x v e]
theorem Aq.assign(e:E x=Ac v):Aq P (.assign x) T E H O v:= .Am λa w o d _ c _=>by simp[ID,d,c x v e]
theorem Akx(e:E c=Ac (.bool Br))(g:E x=Ac v):Aq P (.pick c x y) T E H O v:= .Am λa w o f _ d _=>by simp[ID,f,d x v g,d c _ e,asBool]
theorem Akw(e:E c=Ac (.bool Ap))(g:E y=Ac v):Aq P (.pick c x y) T E H O v:= .Am λa w o f _ d _=>by simp[ID,f,d y v g,d c _ e,asBool]
end
section ints
variable {k : Kj} {x y : Dc} {m n : Int} {Tx Ty : Ee}
section
variable{s d:Ee}{ds:TypeDesc}
theorem Ajb(e:E x=Ac (.int k m))(f:E y=Ac (.int k n)):Aq P (.binOp .add Tx x y Ty) T E H O (.int k (k.wrap (m+n))):= .Am λa w o d _ c _=>by simp[ID,d,c x _ e,c y _ f,eqGuard,binOp,Op.intArith]
theorem Ais(e:E x=Ac (.int k m))(f:E y=Ac (.int k n)):Aq P (.binOp .sub Tx x y Ty) T E H O (.int k (k.wrap (m-n))):= .Am λa w o d _ c _=>by simp[ID,d,c x _ e,c y _ f,eqGuard,binOp,Op.intArith]
theorem Aix(e:E x=Ac (.int k m))(f:E y=Ac (.int k n)):Aq P (.binOp .mul Tx x y Ty) T E H O (.int k (k.wrap (m*n))):= .Am λa w o d _ c _=>by simp[ID,d,c x _ e,c y _ f,eqGuard,binOp,Op.intArith]
theorem DH(h:k.min<=n/\n<=k.max):k.wrap n=n:=by cases k<;>simp[Kj.min,Kj.max,Kj.signed,Kj.bits]at h<;>simp[Kj.wrap,Kj.signed,Kj.bits]<;>omega
theorem T8(h: -9223372036854775808<=n/\n<=9223372036854775807):Kj.i64.min<=n/\n<=Kj.i64.max:=by simpa [Kj.min,Kj.max,Kj.signed,Kj.bits]using h
theorem qp(h:0<=n/\n<=255):Kj.u8.min<=n/\n<=Kj.u8.max:=by simpa [Kj.min,Kj.max,Kj.signed,Kj.bits]using h
theorem Aq.add(a:E x=Ac (.int k m))(b:E y=Ac (.int k n))(h:k.min<=m+n/\m+n<=k.max):Aq P (.binOp .add Tx x y Ty) T E H O (.int k (m+n)):=by have:=Ajb (P:=P) (T:=T) (H:=H) (O:=O) (Tx:=Tx) (Ty:=Ty) a b;rwa [DH h]at this
theorem Aq.sub(a:E x=Ac (.int k m))(b:E y=Ac (.int k n))(h:k.min<=m-n/\m-n<=k.max):Aq P (.binOp .sub Tx x y Ty) T E H O (.int k (m-n)):=by have:=Ais (P:=P) (T:=T) (H:=H) (O:=O) (Tx:=Tx) (Ty:=Ty) a b;rwa [DH h]at this
theorem Aq.mul(a:E x=Ac (.int k m))(b:E y=Ac (.int k n))(h:k.min<=m*n/\m*n<=k.max):Aq P (.binOp .mul Tx x y Ty) T E H O (.int k (m*n)):=by have:=Aix (P:=P) (T:=T) (H:=H) (O:=O) (Tx:=Tx) (Ty:=Ty) a b;rwa [DH h]at this
theorem Aq.eql(e:E x=Ac (.int k m))(f:E y=Ac (.int k n)):Aq P (.binOp .eql Tx x y Ty) T E H O (.bool (decide (m=n))):= .Am λa w o d _ c _=>by simp[ID,d,c x _ e,c y _ f,eqGuard,binOp,Op.intCmp];rw[Aeh];simp
theorem Aq.neq(e:E x=Ac (.int k m))(f:E y=Ac (.int k n)):Aq P (.binOp .neq Tx x y Ty) T E H O (.bool (decide (m≠n))):= .Am λa w o d _ c _=>by simp[ID,d,c x _ e,c y _ f,eqGuard,binOp,Op.intCmp];rw[Aeh];simp
theorem Aq.lss(e:E x=Ac (.int k m))(f:E y=Ac (.int k n)):Aq P (.binOp .lss Tx x y Ty) T E H O (.bool (decide (m<n))):= .Am λa w o d _ c _=>by simp[ID,d,c x _ e,c y _ f,eqGuard,binOp,Op.intCmp]
theorem Aq.leq(e:E x=Ac (.int k m))(f:E y=Ac (.int k n)):Aq P (.binOp .leq Tx x y Ty) T E H O (.bool (decide (m<=n))):= .Am λa w o d _ c _=>by simp[ID,d,c x _ e,c y _ f,eqGuard,binOp,Op.intCmp]
theorem Aq.gtr(e:E x=Ac (.int k m))(f:E y=Ac (.int k n)):Aq P (.binOp .gtr Tx x y Ty) T E H O (.bool (decide (n<m))):= .Am λa w o d _ c _=>by simp[ID,d,c x _ e,c y _ f,eqGuard,binOp,Op.intCmp]
theorem Aq.geq(e:E x=Ac (.int k m))(f:E y=Ac (.int k n)):Aq P (.binOp .geq Tx x y Ty) T E H O (.bool (decide (n<=m))):= .Am λa w o d _ c _=>by simp[ID,d,c x _ e,c y _ f,eqGuard,binOp,Op.intCmp]
theorem Ajp{c:Kj}(i:P.underlying s=Ac ds)(f:P.underlying d=Ac (.int c))(j:E x=Ac (.int k m)):Aq P (.convert s d x) T E H O (.int c (c.wrap m)):= .Am λa w o h _ g _=>by simp[ID,h,g x _ j,convert,AU i,AU f,Conv.intToInt]
theorem Aq.conv{a:Kj}(c:P.underlying s=Ac ds)(b:P.underlying d=Ac (.int a))(e:E x=Ac (.int k m))(h:a.min<=m/\m<=a.max):Aq P (.convert s d x) T E H O (.int a m):=by have:=Ajp (P:=P) (T:=T) (H:=H) (O:=O) c b e;rwa [DH h]at this
end
end ints
section words
variable {x y : Dc} {Tx Ty : Ee}
section
variable{k:Kj}{a:BitVec 64}{n:Nat}
def KP(a:BitVec 64):BU:= .int .u64 a.toNat
theorem shift_shl(a:BitVec 64)(k:Kj)(n:Nat):Op.shift .shl .u64 a.toNat k n=pure (KP (a<<<n)):=by
 have b:¬((n:Int)<0):=by omega
 have key:∀j:Nat,Kj.u64.wrap ((a.toNat:Int)*2^j)=((a.toNat*2^j %2^64:Nat):Int):=λj=>by simp[Kj.wrap,Kj.signed,Kj.bits]
 unfold Op.shift;rw[if_neg b];show(pure (.int .u64 (Kj.u64.wrap ((a.toNat:Int)*2^ (min n 64)))):Sem BU)=_;rw[key,KP,BitVec.toNat_shiftLeft,Nat.shiftLeft_eq];by_cases h:n<=64;· rw[Adl h]
 ·rw[Nat.min_eq_right (by omega)];have c:a.toNat*2^n %2^64=0:=by
   rw[show n=64+(n-64) by omega,Nat.pow_add,<-Aea,Nat.mul_right_comm,Nat.mul_mod_left]
  rw[c,Nat.mul_mod_left]
theorem shift_shr(a:BitVec 64)(k:Kj)(n:Nat):Op.shift .shr .u64 a.toNat k n=pure (KP (a>>>n)):=by
 have c:¬((n:Int)<0):=by omega
 have key:∀j:Nat,(a.toNat:Int).fdiv (2^j)=((a.toNat/2^j:Nat):Int):=λj=>by rw[Int.fdiv_eq_ediv_of_nonneg _ (Int.pow_nonneg (by decide))];simp
 unfold Op.shift;rw[if_neg c];show(pure (.int .u64 ((a.toNat:Int).fdiv (2^ (min n 64)))):Sem BU)=_;rw[key,KP,BitVec.toNat_ushiftRight,Nat.shiftRight_eq_div_pow];by_cases h:n<=64;· rw[Adl h]
 ·rw[Nat.min_eq_right (by omega)];have d:a.toNat/2^n=0:=Nat.div_eq_of_lt (Abs a.isLt (Ahh (by decide) (by omega)));rw[d,Nat.div_eq_of_lt a.isLt]
theorem Aiu(e:E x=Ac (KP a))(f:E y=Ac (.int k (n:Int))):Aq P (.binOp .shl Tx x y Ty) T E H O (KP (a<<<n)):= .Am λg w o d _ c _=>by have:=shift_shl a k n;simp only[KP]at*;simp[ID,d,c x _ e,c y _ f,eqGuard,binOp,this]
theorem Ait(e:E x=Ac (KP a))(f:E y=Ac (.int k (n:Int))):Aq P (.binOp .shr Tx x y Ty) T E H O (KP (a>>>n)):= .Am λg w o d _ c _=>by have:=shift_shr a k n;simp only[KP]at*;simp[ID,d,c x _ e,c y _ f,eqGuard,binOp,this]
end
end words
section
variable{x:Dc}{t:Ee}{v:BU}{e:Ee}{bytes:Nat}{z:BU}{d:TypeDesc}{w:GD}{y:Dc}{i n size:Nat}{Tx:Ee}{b:Bool}{vs:List BU}{a:Bool}{B off:Nat}{k:Kj}{xs:List BU}{cs:Array BU}
theorem Aq.not(e:E x=Ac (.bool b)):Aq P (.unOp .not Tx x) T E H O (.bool (!b)):= .Am λf w o d _ c _=>by simp[ID,d,c x _ e,Op.unary]
theorem Md(ht:P.underlying Tx=Ac .bool):(Op.equal Tx (.bool a) (.bool b)).run P w= .ok (a==b) w:=by
 have h:∀d,(Op.equalIn (d+1) Tx (.bool a) (.bool b)).run P w= .ok (a==b) w:=λd=>by simp[Op.equalIn,AU ht]
 unfold Op.equal Op.maxDepth;exact h 9999
theorem Ajx{Ty:Ee}(ht:P.underlying Tx=Ac .bool)(f:E x=Ac (.bool a))(g:E y=Ac (.bool b)):Aq P (.binOp .eql Tx x y Ty) T E H O (.bool (a==b)):= .Am λh w o e _ d _=>by have:=Md (w:=w) (a:=a) (b:=b) ht;simp[ID,e,d x _ f,d y _ g,eqGuard,binOp,this]
theorem Ajv{Ty:Ee}(ht:P.underlying Tx=Ac .bool)(f:E x=Ac (.bool a))(g:E y=Ac (.bool b)):Aq P (.binOp .neq Tx x y Ty) T E H O (.bool (!(a==b))):= .Am λh w o e _ d _=>by have:=Md (w:=w) (a:=a) (b:=b) ht;simp[ID,e,d x _ f,d y _ g,eqGuard,binOp,this]
theorem Aq.extract{vs:Array BU}(e:E x=Ac (.tuple vs))(hi:vs[i]?=Ac v):Aq P (.extract x i) T E H O v:= .Am λf w o d _ c _=>by simp[ID,d,c x _ e,Instr.extract,hi]
theorem Aq.len(ht:P.underlying t=Ac (.slice e))(h:E x=Ac v)(f:SQ v n):Aq P (.call {callee:= .builtin .len,args:= #[x],argTypes:= #[t]}) T E H O (.int .i64 n):= .Am λi w o g _ d _=>by rcases f with⟨rfl,rfl⟩|⟨a,cap,rfl,_⟩<;>simp[ID,g,d x _ h,resolve,invoke,builtin,Builtin.len_,AU ht,goInt]
theorem Ali{s:ByteArray}(ht:P.underlying t=Ac .string)(e:E x=Ac (.string s)):Aq P (.call {callee:= .builtin .len,args:= #[x],argTypes:= #[t]}) T E H O (.int .i64 s.size):= .Am λf w o d _ c _=>by simp[ID,d,c x _ e,resolve,invoke,builtin,Builtin.len_,AU ht,goInt]
theorem Aq.vC{len off':Nat}{i:Int}(ht:P.underlying t=Ac (.array len e))(d:TI P e size bytes z)(j:E x=Ac (ptr B off))(l:E y=Ac (.int k i))
  (h:0<=i/\i<len) (c:off+i.toNat*size=off'):Aq P (.indexAddr t x y) T E H O (ptr B off'):= .Am λm w o g _ f _=>by
 simp only[ptr]at*;subst c;simp[ID,g,f x _ j,f y _ l,Instr.indexAt,asIntOf,AU ht,Instr.sureAddr,h,d.sizeOf,Addr.add]
theorem Ahp{i:Int}(ht:P.underlying t=Ac (.slice e))(d:TI P e size bytes z)(l:E x=Ac v)(g:SQ v n)(m:E y=Ac (.int k i))
  (h:0<=i/\i<n):Aq P (.indexAddr t x y) T E H O (AO v (i.toNat*size)):= .Am λp w o j _ f _=>by
 rcases g with⟨rfl,rfl⟩|⟨a,cap,rfl,_⟩;· omega
 ·simp[ID,j,f x _ l,f y _ m,Instr.indexAt,asIntOf,AU ht,h,d.sizeOf,AO]
theorem Akv{d:Ee}{i:Int}{s j:Nat}(ht:P.underlying t=Ac (.slice e))(b:TI P e size bytes z)(p:E x=Ac v)(l:O[j]?=Ac (.row v d s n xs))(q:E y=Ac (.int k i))
 (h:0<=i/\i<n):Aq P (.indexAddr t x y) T E H O (AO v (i.toNat*size)):=λa w o m f g c=>Ahp (H:=H) (O:=O) ht b p (c.Mj l).1 q h a w o m f g c
theorem run_loadCells{P:Ge}{w:GD}{a:Addr} :∀ {vs:List BU} {i:Nat} {acc:Array BU},(∀j u,vs[j]?=Ac u->w.cell? (a.add (i+j))=Ac u)->
  (loadCellsFrom a i vs.length acc).run P w= .ok (acc++vs.toArray) w
 | [],i,acc,_=>by simp[loadCellsFrom]
 |v::vs,i,acc,h=>by
  have b:=h 0 v rfl;simp only[Aha]at b;have d:=run_loadCells (P:=P) (w:=w) (a:=a) (vs:=vs) (i:=i+1) (acc:=acc.push v) (λj u c=>by have:=h (j+1) u (by simpa using c);rwa [show i+(j+1)=i+1+j by omega]at this);simp only[Aav,loadCellsFrom,Sem.run_bind,run_load,b,Result.andThen_ok,d];simp
theorem Cv{a:Addr}(ht:P.underlying t=Ac d)(b:DC d=Ap)(h:w.cell? a=Ac v):(loadVar t a).run P w= .ok v w:=by simp[loadVar,Cc ht,b,h]
theorem Cw{a:Addr}(ht:P.underlying t=Ac d)(c:DC d=Br)(b:TI P t vs.length bytes z)(h:∀j u,vs[j]?=Ac u->w.cell? (a.add j)=Ac u):(loadVar t a).run P w= .ok (.agg vs.toArray) w:=by have:=run_loadCells (P:=P) (w:=w) (a:=a) (vs:=vs) (i:=0) (acc:= #[]) (λj u e=>by simpa using h j u e);simp[loadVar,Cc ht,c,b.sizeOf,loadCells,this]
theorem Agv{m:Ee}{f:Nat×Nat}(ht:P.underlying t=Ac d)(g:DC d=Ap)(c:E x=Ac (ptr B off))(hi:O[i]?=Ac (.Ah B (.cells cs m f)))(l:cs[off]?=Ac v):
  Aq P (.load t x) T E H O v:= .Am λn w o j _ h k=>by
 simp only[ptr]at c;simp[ID,j,h x _ c,Instr.loadAt,Instr.sureAddr,Cv ht g (k.H4 hi l)]
theorem Alg{r:Ee}{h:Nat×Nat}(ht:P.underlying t=Ac d)(k:DC d=Br)(e:TI P t vs.length bytes z)(f:E x=Ac (ptr B off))(hi:O[i]?=Ac (.Ah B (.cells cs r h)))
  (q:∀j u,vs[j]?=Ac u->cs[off+j]?=Ac u):Aq P (.load t x) T E H O (.agg vs.toArray):= .Am λs w o n _ l p=>by
 simp only[ptr]at f;have:=Cw (P:=P) (w:=w) (a:=⟨B,off,C7⟩) ht k e (λj u m=>by rw[Addr.add_lit];exact p.H4 hi (q j u m));simp[ID,n,l x _ f,Instr.loadAt,Instr.sureAddr,this]
theorem rR.cells(e:SH w H O){k:Nat}(h0:vs≠ [])(h:∀j u,vs[j]?=Ac u->DG H (AO v (k+j)) u):
  ∃a:Addr,AO v k= .pointer (Ac a)/\∀j u,vs[j]?=Ac u->w.cell? (a.add j)=Ac u:=by
 cases v with
 |slice b n c=>
  cases b with
  |none=>
   cases vs with
   |nil=>exact absurd rfl h0
   |cons y i=>
    obtain⟨a,d,_⟩:=(h 0 y rfl).cell e;simp[AO,undef]at d
  |some b=>
   refine⟨b.add k,rfl,λj u g=>?_⟩;obtain⟨a,d,f⟩:=(h j u g).cell e;simp only[AO,BU.pointer.injEq,Aei]at d;rw[<-d]at f;rw[C5];exact f
 |_=>
  cases vs with
  |nil=>exact absurd rfl h0
  |cons y i=>
   obtain⟨a,d,_⟩:=(h 0 y rfl).cell e;simp[AO,undef]at d
theorem Akp{u:BU}{k:Nat}(ht:P.underlying t=Ac d)(j:DC d=Ap)(f:E x=Ac (AO v k))(hi:O[i]?=Ac (.row v e size n xs))(q:xs[k]?=Ac u):
  Aq P (.load t x) T E H O u:= .Am λr w o m _ l p=>by
 obtain⟨a,g,_,_,h,_⟩:=p.eJ hi q;rw[g]at f;simp[ID,m,l x _ f,Instr.loadAt,Instr.sureAddr,Cv ht j h]
theorem Alh{k:Nat}(ht:P.underlying t=Ac d)(r:DC d=Br)(c:TI P t vs.length bytes z)(h0:vs≠ [])(p:E x=Ac (AO v k))(hi:O[i]?=Ac (.row v e size n xs))(m:∀j u,vs[j]?=Ac u->xs[k+j]?=Ac u):
  Aq P (.load t x) T E H O (.agg vs.toArray):= .Am λD w o B _ s C=>by
 have h:=C.ok i _ hi;simp only[Av.ok]at h;rcases h.2 with⟨rfl,rfl⟩|⟨g,cap,cur,rfl,_,F,_,_,_,f⟩;· have l:xs=[]:=Abc (by simpa using h.1);subst l;cases vs with
  |nil=>exact absurd rfl h0
  |cons y G=>have:=m 0 y rfl;simp at this
 ·have q:∀j u,vs[j]?=Ac u->w.cell? ((Addr.add ⟨g,0,C7⟩ k).add j)=Ac u:=λj u A=>by
   have:=h.cells (g:=g) rfl (k+j) u (m j u A);rw[C5];exact this
  simp only[AO]at p;simp[ID,B,s x _ p,Instr.loadAt,Instr.sureAddr,Cw (w:=w) ht r c q]
end
end
theorem ED(w:GD)(g:Nat)(cs:Array BU):w.grownBy (w.setRow g cs) (Ac g):=
 ⟨rfl,rfl,rfl,by simp,λk _ a=>setRow_other w g k cs (λe=>a (by rw[e]))⟩
def CG(xs:List BU)(off:Nat)(vs:List BU):List BU:=xs.take off++vs++xs.drop (off+vs.length)
theorem U0(xs:List BU)(off:Nat)(v:BU)(h:off<xs.length):CG xs off [v]=xs.set off v:=by unfold CG;rw[Afp];simp[h]
theorem Ix(xs:List BU)(off:Nat)(vs:List BU)(h:off+vs.length<=xs.length):(CG xs off vs).length=xs.length:=by unfold CG;simp;omega
theorem YO(xs:List BU)(off m:Nat)(vs:List BU)(h:off+vs.length<=m)(h2:m<=xs.length):(CG xs off vs).take m=CG (xs.take m) off vs:=by
 unfold CG;have c:(xs.take off++vs).length=off+vs.length:=by simp;omega
 rw[Aed,c,Abm (by omega),Ahi,Adl (by omega),Ahl]
theorem KR{P:Ge}{w:GD}{t:Ee}{v:BU}{g off bytes:Nat}{z:BU}{cur:Array BU}{e:Ee}(c:TI P t v.cells.size bytes z)(d:w.heap[g]?=Ac (.cells cur e (0,0)))(a:off+v.cells.size<=cur.size)
  (h1:∀u∈v.cells,u.oneCell'=Br):(storeVar t ⟨g,off,C7⟩ v).run P w= .ok () (w.setRow g (CG cur.toList off v.cells.toList).toArray):=by
 have:=run_storeCells_at (P:=P) g off e v.cells.toList 0 cur w d (by simpa using a) (λu f=>h1 u (by simpa using f));simp only[Aha]at this;simp[storeVar,c.sizeOf,this,CG]
section
variable {P : Ge} {Q : Exit -> Act -> GD -> Prop} {n : Nat} {L : List (Nat × BU)} {H : Hp} {O : List Av} {ops : Array J5} {rest : List J5}
variable {T : Ee} {E : Dc -> Option BU}
section
variable{size:Nat}{t:Ee}{v z:BU}{bytes:Nat}{e:Ee}{i:Nat}{R:BU->Hp->List Av->Prop}{x:Dc}{cs:Array BU}{vs:List BU}{y:Dc}{B:Nat}{f:FuncId}{m:Nat}{xs:List BU}{w:GD}{op:Op}{off:Nat}{zs:Array BU}{ps:List (Nat×Dc)}{fn:Func}{X:Ending->GD->Prop}
theorem BJ.mono{d:BU->Hp->List Av->Prop}(h:BJ P op T E H O R)(p:∀v b c,R v b c->d v b c):BJ P op T E H O d:=
 λa w o next Q i j k l m=>h a w o next Q i j k l λv q b c e f g=>m v q b c e (p _ _ _ f) g
theorem BJ.Am(h:∀(a:Act) (w:GD) (o:J5),o.op=op->o.type=T->(∀x u,E x=Ac u->a.eval x=u)->SH w H O->
  ∃v w' b c,(ID a.eval o).run P w= .ok (.value v) w'/\H.le b/\R v b c/\SH w' b c):BJ P op T E H O R:=by
 intro a w o next Q i j k l m;obtain⟨v,w',b,c,d,e,f,g⟩:=h a w o i j k l;unfold J5.wp;rw[d];exact m v w' b c e f g
theorem BJ.LG(h:∀(a:Act) (w:GD) (o:J5),o.op=op->o.type=T->(∀x u,E x=Ac u->a.eval x=u)->SH w H O->
  ∃w' b c,(ID a.eval o).run P w= .ok .skip w'/\H.le b/\R undef b c/\SH w' b c):BJ P op T E H O R:=by
 intro a w o next Q i j k l m;obtain⟨w',b,c,d,e,f,g⟩:=h a w o i j k l;unfold J5.wp;rw[d];exact m undef w' b c e f g
theorem BJ.Q3(A:E x=Ac (ptr B off))(K:E y=Ac v)(p:v.cells.toList=vs)(m:TI P t size bytes z)(I:vs.length=size)
  (h1:∀u∈vs,u.oneCell'=Br) (hi:O[i]?=Ac (.Ah B (.cells cs e (0,0)))) (r:off+vs.length<=cs.size):
  BJ P (.store t x y) T E H O (λ_ C D=>C=H/\D=O.set i (.Ah B (.cells (CG cs.toList off vs).toArray e (0,0)))):= .LG λa w o G _ q s=>by
 have l:=s.ok i _ hi;simp only[Av.ok]at l;have d:v.cells.size=vs.length:=by rw[<-p];simp
 have f:=KR (P:=P) (w:=w) (t:=t) (v:=v) (g:=B) (off:=off) (e:=e) (by rw[d,I];exact m) l (by omega) (λu J=>h1 u (by rw[<-p];simpa using J));simp only[ptr]at A;rw[p]at f;refine⟨_,H,_,?_,Hp.le.refl H,⟨rfl,rfl⟩,s.set hi (ED w B _) (setRow_heap w B cs _ e _ l) (λb F=> .inl F)⟩;simp[ID,G,q x _ A,q y _ K,Instr.storeAt,Instr.sureAddr,f]
theorem ES.Q3{pos:String}{g:Array Edge}{cs':Array BU}(l:ev L x=Ac (ptr B off))(m:ev L y=Ac v)(j:v.cells.toList=vs)(f:TI P t size bytes z)(h:vs.length=size)
  (h1:∀u∈vs,u.oneCell'=Br) (hi:O[i]?=Ac (.Ah B (.cells cs e (0,0)))) (a:off+vs.length<=cs.size) (d:(CG cs.toList off vs).toArray=cs')
  (k:ES P ops Q rest n L H (O.set i (.Ah B (.cells cs' e (0,0))))):
  ES P ops Q ({dst:=C7,op:= .store t x y,type:=T,pos,after:=g,guard:=C7} ::rest) n L H O:=
 ES.opS0 (BJ.Q3 l m j f h h1 hi a) (by rintro v o p _ ⟨rfl,rfl⟩;subst d;exact k)
theorem ES.nU{pos:String}{f:Array Edge}(j:ev L x=Ac (ptr B off))(l:ev L y=Ac v)(h:v.oneCell'=Br)(c:TI P t 1 bytes z)
  (hi:O[i]?=Ac (.Ah B (.cells cs e (0,0)))) (a:off<cs.size)
  (k:ES P ops Q rest n L H (O.set i (.Ah B (.cells (cs.setIfInBounds off v) e (0,0))))):
  ES P ops Q ({dst:=C7,op:= .store t x y,type:=T,pos,after:=f,guard:=C7} ::rest) n L H O:=by
 have g:v.cells.toList=[v]:=by cases v<;>simp_all [BU.cells,BU.oneCell']
 refine ES.Q3 j l g c rfl (λu d=>by simp at d;subst d;exact h) hi (by simp;omega) ?_ k;rw[U0 _ _ _ (by simpa using a)];rw[<-Array.toList_setIfInBounds]
theorem Akf{u:BU}{k sz:Nat}(M:E x=Ac (AO v k))(X:E y=Ac u)(D:u.cells.toList=vs)(C:TI P t sz bytes z)(J:vs.length=sz)(h0:0<sz)
  (h1:∀u∈vs,u.oneCell'=Br) (hi:O[i]?=Ac (.row v e size m xs)) (c:k+vs.length<=xs.length):
  BJ P (.store t x y) T E H O (λ_ R S=>R=H/\S=O.set i (.row v e size m (CG xs k vs))):= .LG λa w o V _ F K=>by
 have d:=K.ok i _ hi;simp only[Av.ok]at d;rcases d.2 with⟨rfl,rfl⟩|⟨g,cap,cur,rfl,A,G,I,U,p,l⟩;· have:xs=[]:=Abc (by simpa using d.1);subst this;simp at c;simp[c]at J;omega
 ·have j:u.cells.size=vs.length:=by rw[<-D];simp
  have B:m*size<=cur.size:=by rw[p];exact Abj _ I
  have h:k+vs.length<=m*size:=by rw[<-d.1];exact c
  have q:=KR (P:=P) (w:=w) (t:=t) (v:=u) (g:=g) (off:=k) (e:=e) (by rw[j,J];exact C) G (by omega) (λu W=>h1 u (by rw[<-D];simpa using W));rw[D]at q;simp only[AO,Addr.add_lit,Abi]at M;refine⟨_,H,_,?_,Hp.le.refl H,⟨rfl,rfl⟩,K.set hi (ED w g (CG cur.toList k vs).toArray) (r':= .row (.slice (Ac ⟨g,0,C7⟩) m cap) e size m (CG xs k vs)) ?_ (λb A=> .inl A)⟩;· simp[ID,V,F x _ M,F y _ X,Instr.storeAt,Instr.sureAddr,q]
  ·refine⟨by rw[Ix _ _ _ c];exact d.1, .inr ⟨g,cap,_,rf,A,setRow_heap w g cur _ e _ G,I,U,?_,?_⟩⟩;· simp only[List.size_toArray];rw[Ix _ _ _ (by simp;omega)];simpa using p
   ·show(CG cur.toList k vs).take (m*size)=_;rw[YO _ _ _ _ h (by simpa using B),l]
theorem SH.G'(c:SH w H O)(e:Ee)(size:Nat):SH w H (.row (.slice C7 0 0) e size 0 []::O):=
 c.push (GD.grownBy.refl w C7) (GD.ownsRow_nil w 0 e size) (λb a=>by simp[Av.has,BU.ownBlock]at a)
def Yo(E:Dc->Option BU):List (Nat×Dc)->Option (List (Nat×BU))
 | []=>Ac []
 |(i,x)::r=>match E x,Yo E r with
  |some v,Ac vs=>Ac ((i,v)::vs)
  |_,_=>C7
theorem Ht{E:Dc->Option BU}{a:Act}(d:∀x u,E x=Ac u->a.eval x=u):∀ {ps:List (Nat×Dc)} {vs:List (Nat×BU)},Yo E ps=Ac vs->ps.map (λp=>(p.1,a.eval p.2))=vs
 | [],vs,h=>by simpa [Yo]using h
 |(i,x)::r,vs,h=>by
  simp only[Yo]at h;cases b:E x with
  |none=>simp[b]at h
  |some v=>
   cases c:Yo E r with
   |none=>simp[b,c]at h
   |some e=>
    simp[b,c]at h;subst h;simp[d x v b];have:=Ht d c;simpa using this
theorem Aq.build{fs:Array Field}{vs:List (Nat×BU)}{places:Array (Nat×Nat)}(ht:P.underlying t=Ac (.struct fs))(p:TI P t size bytes z)(g:z.cells=zs)
  (m:∀w,(fs.mapM λf=>do pure (f.offset,<-Go.sizeOf f.type):Sem (Array (Nat×Nat))).run P w= .ok places w) (e:Yo E ps=Ac vs) (k:Instr.fill (places[·]?) zs vs=Ac cs):Aq P (.build t ps.toArray) T E H O (.agg cs):= .Am λa w o l _ j _=>by
 have h:(ps.toArray.map λ(i,x)=>(i,a.eval x)).toList=vs:=by simpa using Ht j e
 simp only[ID,l,Instr.build,Sem.run_bind,p.zeroValue,Result.andThen_ok,AU ht,g];rw[m w];simp only[Result.andThen_ok,h,k];rfl
theorem Aq.ra{len b c:Nat}{l:BU}{vs:List (Nat×BU)}(ht:P.underlying t=Ac (.array len e))(s:TI P t size bytes z)(k:TI P e b c l)(j:z.cells=zs)
  (h:Yo E ps=Ac vs) (q:Instr.fill (λi=>Ac (i*b,b)) zs vs=Ac cs):Aq P (.build t ps.toArray) T E H O (.agg cs):= .Am λa w o r _ p _=>by
 have m:(ps.toArray.map λ(i,x)=>(i,a.eval x)).toList=vs:=by simpa using Ht p h
 simp only[ID,r,Instr.build,Sem.run_bind,s.zeroValue,Result.andThen_ok,AU ht,j,k.sizeOf,m,q];rfl
theorem Xo(l:List BU):∀(k:Nat) (acc:Array BU) (i:Nat),((l.zipIdx k).foldl (λcs (p:BU×Nat)=>cs.setIfInBounds p.2 p.1) acc)[i]?=if k<=i/\i<k+l.length/\i<acc.size then l[i-k]? else acc[i]?:=by
 induction l with
 |nil=>intro k acc i;simp;intro c b;omega
 |cons v l h=>
  intro k acc i;rw[List.zipIdx_cons,Adn,h (k+1) (acc.setIfInBounds k v) i];simp only[Array.size_setIfInBounds,Array.getElem?_setIfInBounds,Aav];by_cases c:k=i
  ·subst c;by_cases b:k<acc.size
   ·have a:¬(k+1<=k):=by omega
    have e:k<k+(l.length+1):=by omega
    simp[a,b,e]
   ·have a:¬(k+1<=k):=by omega
    simp[a,b]
  ·by_cases b:k<=i
   ·have a:k+1<=i:=by omega
    have f:(i<k+1+l.length)↔(i<k+(l.length+1)):=by omega
    have g:i-k=(i-(k+1))+1:=by omega
    simp only[a,b,true_and,f,c,if_false,g,Adg]
   ·have a:¬(k+1<=i):=by omega
    simp[a,b,c]
def Src(w:GD)(x:BU)(size m:Nat)(a:List BU):Prop:=a.length=m*size/\((x= .slice C7 0 0/\m=0)\/∃b c,x= .slice (Ac b) m c/\∀j u,a[j]?=Ac u->w.cell? (b.add j)=Ac u)
theorem SH.nX(a:SH w H O)(hi:O[i]?=Ac (.row v e size m xs)):Src w v size m xs:=by
 have h:=a.ok i _ hi;simp only[Av.ok]at h;refine⟨h.1,?_⟩;rcases h.2 with⟨rfl,rfl⟩|⟨g,cap,cur,rfl,_⟩;· exact .inl ⟨rfl,rfl⟩
 ·exact .inr ⟨_,_,rf,h.cells (g:=g) rf⟩
theorem SH.To(f:SH w H O)(b:Sl H v size m xs):Src w v size m xs:=by
 refine⟨b.len,?_⟩;rcases b.sl with⟨rfl,rfl⟩|⟨a,cap,rfl,_⟩;· exact .inl ⟨rfl,rfl⟩
 ·refine .inr ⟨_,_,rfl,λj u e=>?_⟩;obtain⟨g,c,d⟩:=(b.cells j u e).cell f;simp only[AO,BU.pointer.injEq,Aei]at c;rw[c];exact d
theorem BJ.append{s:Dc}{y:BU}{d:List BU}(ht:P.underlying t=Ac (.slice e))(hz:TI P e size bytes z)(K:z.cells.size=size)(h0:0<size)(hs:E s=Ac v)(hx:E x=Ac y)
  (hi:O[i]?=Ac (.row v e size m xs)) (A:∀w,SH w H O->Src w y size B d) (h1:∀u∈d,u.oneCell'=Br) (p:(m+B)*bytes<=140737488355328) (hl:m+B<=140737488355328):
  BJ P (.call {callee:= .builtin .append,args:= #[s,x],argTypes:= #[t,t]}) T E H O (λv' H' O'=>H'=H/\O'=O.set i (.row v' e size (m+B) (xs++d))):=by
 intro a w o next Q ho hT N Y k;have f:=Y.ok i _ hi;simp only[Av.ok]at f;obtain⟨ii,q,g1,U,V⟩:=hz.ex;have key:∀v' C,C.ownsRow 0 e size v' (m+B) (xs++d)->w.grownBy C v.ownBlock->(v'.ownBlock=v.ownBlock\/∀b,v'.ownBlock=Ac b->w.heap.size<=b)->next (a.put o.dst v') C:=λv' C k1 k2 F=>
  k v' C H _ (Hp.le.refl H) ⟨rfl,rfl⟩ (Y.set hi k2 k1 (λb p=>by
   rcases F with F|F;· left;rw[Av.has]at p⊢;rw[<-F];exact p
   ·exact .inr (F b p)));obtain⟨j,A⟩:=A w Y;rcases A with⟨rfl,rfl⟩|⟨M,c,rfl,h⟩;· have hn:d=[]:=Abc (by simpa using j);subst hn;have J:=run_append_owned_none (P:=P) (w:=w) 0 t o.type e ii size ht q v m xs f;unfold J5.wp;simp[ID,ho,resolve,invoke,builtin,N s _ hs,N x _ hx,J,Result.andThen];exact key v w (by simpa using f) (GD.grownBy.refl _ _) (.inl rfl)
 ·obtain⟨v',C,R,k1,k2,F⟩:=run_append_own (P:=P) w 0 t o.type e ii z size bytes ht q V g1 U K h0 v m xs f M B c d j h h1 (by simp only[maxLen];omega) p (Abh _);unfold J5.wp;simp[ID,ho,resolve,invoke,builtin,N s _ hs,N x _ hx,R,Result.andThen];refine key v' C k1 k2 ?_;subst g1;rcases f.2 with⟨rfl,rfl⟩|⟨g,cap,cur,rfl,_,hg,hnc,_,W,X⟩;· right;have Z:xs=[]:=Abc (by simpa using f.1);subst Z;obtain⟨v2,w2,l,q1,_,_⟩:=run_append_own (P:=P) w w.heap.size t o.type e ii z ii.size bytes ht q V rfl U K h0 (.slice C7 0 0) 0 [] (GD.ownsRow_nil w _ e _) M B c d j h h1 (by simp only[maxLen];omega) p (Aad _);rw[R]at l;injection l with G S;subst G;subst S;exact λb p=>(GD.ownsRow.lt q1 b p).1
  ·by_cases r:m+B<=cap
   ·left;have I:m*ii.size+d.length<=cur.size:=by rw[j,W,<-Adm];exact Abj _ r
    have l:=run_append_room (P:=P) w t o.type e ii ht q g m cap cur hg M B c d j h h1 r I;rw[R]at l;injection l with G S;rw[G];rfl
   ·right;have l:=run_append_grow (P:=P) w t o.type e ii z ht q V ⟨g,0,C7⟩ m cap xs f.1 (f.cells (g:=g) rfl) M B c d j h (by omega) (by omega) (growslice_fits (by omega) (by rw[U];exact p));rw[R]at l;injection l with G S;intro b p;rw[G]at p;simp[BU.ownBlock]at p;omega
structure QF(P:Ge)(f:FuncId):Prop where
 ex:∃fn,P.funcs[f]?=Ac fn/\(fn.name== "runtime.NumGoroutine")=Ap/\fn.body.isNone=Ap
theorem QF.run(h:QF P f)(args:Array BU)(w:GD):(callFunc f args).run P w= .ok (.enter f args) w:=by
 obtain⟨fn,c,d,e⟩:=h.ex;have a:¬fn.name= "runtime.NumGoroutine" :=by simpa using d
 have b:¬fn.body=C7:=λh=>by simp[h]at e
 simp[callFunc,c,a,b]
def MW(E:Dc->Option BU):List Dc->Option (List BU)
 | []=>Ac []
 |x::xs=>match E x,MW E xs with
  |some v,Ac vs=>Ac (v::vs)
  |_,_=>C7
theorem FV{a:Act}(e:∀x u,E x=Ac u->a.eval x=u):∀ {xs:List Dc} {vs:List BU},MW E xs=Ac vs->xs.map a.eval=vs
 | [],vs,b=>by simpa [MW]using b
 |x::xs,vs,b=>by
  simp only[MW]at b;cases c:E x with
  |none=>simp[c]at b
  |some v=>
   cases d:MW E xs with
   |none=>simp[c,d]at b
   |some f=>
    simp[c,d]at b;subst b;simp[e x v c,FV e d]
def zj(H:Hp)(R:BU->Hp->List Av->Prop)(e:Ending)(w':GD):Prop:= ∃v a b,e= .returned v/\H.le a/\SH w' a b/\R v a b
def O5(P:Ge)(f:FuncId)(args:List BU)(H:Hp)(O:List Av)(R:BU->Hp->List Av->Prop):Prop:= ∀w,SH w H O->Calls P f args.toArray w (zj H R)
def iJ(P:Ge)(f:FuncId)(args:List BU)(H:Hp)(O:List Av)(v:BU):Prop:= ∀w,SH w H O->Calls P f args.toArray w λe w'=>e= .returned v/\SH w' H O
theorem O5.mono{args:List BU}{c:BU->Hp->List Av->Prop}(h:O5 P f args H O R)(j:∀v a b,H.le a->R v a b->c v a b):O5 P f args H O c:=λw k=>
 (h w k).mono λ_ _ ⟨v,a,b,e,d,g,i⟩=>⟨v,a,b,e,d,g,j _ _ _ d i⟩
theorem BJ.call{args:List Dc}{tys:Array Ee}(c:QF P f)(l:MW E args=Ac vs)(ht:O5 P f vs H O R):BJ P (.call {callee:= .value (.func f),args:=args.toArray,argTypes:=tys}) T E H O R:=λa w o next Q p _ m r k=>by
 have q:(ID a.eval o).run P w= .ok (.enter f vs.toArray) w:=by simp[ID,p,resolve,Deferred.ofValue,Act.eval,invoke,FV m l,c.run]
 unfold J5.wp;rw[q];refine(ht w r).mono ?_;rintro e s ⟨v,d,g,rfl,h,i,j⟩;exact k v s d g h j i
def Ib:Nat->List BU->List (Nat×BU)
 |_,[]=>[]
 |i,v::vs=>(i,v)::Ib (i+1) vs
theorem OY:∀(vs:List BU) (i t:Nat) (v:BU),lk (Ib i vs) t=Ac v->i<=t/\vs[t-i]?=Ac v
 | [],_,_,_,h=>by simp[Ib,lk]at h
 |u::c,i,t,v,h=>by
  simp only[Ib,lk]at h;cases a:Nat.beq i t with
  |true=>
   rw[a]at h;have:=AI a;subst this;simp at h;subst h;exact⟨Aad _,by simp⟩
  |false=>
   rw[a]at h;have ne:=Abe a;obtain⟨d,b⟩:=OY c (i+1) t v h;refine⟨by omega,?_⟩;rw[show t-i=(t-(i+1))+1 by omega];simpa using b
theorem Fr.enter(vs:List BU)(n:Nat)(h:Nat.ble vs.length n=Br):Fr {tmps:=vs.toArray++Array.replicate (n-vs.toArray.size) undef,defers:=[]} n (Ib 0 vs):=by
 have g:=Aba h;refine⟨rfl,by simp;omega,λt v f=>?_⟩;obtain⟨_,c⟩:=OY vs 0 t v f;simp at c;have a:t<vs.length:=(No.1 c).1;have e:vs[t]=v:=by rw[BY a]at c;exact Abo c
 simp[Array.getElem?_append,a,e]
theorem kF{c:Code}(d:P.funcs[f]?=Ac fn)(b:fn.body=Ac c)(e:fn.ntmps=n)(a:Nat.ble vs.length n=Br)
  (h:Wp P c (bodyPost P fn X) n (Ib 0 vs) H O)  (g:SH w H O):Calls P f vs.toArray w X:=by
 subst e;exact calls_of_wp d b (h _ w (Fr.enter vs _ a) g)
def Ym(a:Array BU)(r:ResultVar):Sem BU:=match r with
 | .tmp t=>pure (a.getD t undef)
 | .cell b t=>do loadVar t (<-asAddr (a.getD b undef))
theorem IB(fn:Func)(a:Array BU):results fn a=(do let vs<-fn.results.mapM (Ym a);pure (if h:vs.size=1 then vs[0]else .tuple vs)):=by
 have:(λr=>match r with
  | .tmp t=>(pure (a.getD t undef):Sem BU)
  | .cell b t=>do loadVar t (<-asAddr (a.getD b undef)))=Ym a:=by funext r;cases r<;>rfl
 unfold results;rw[<-this];rfl
theorem Ajn(c:fn.results= #[])(k:∀w,SH w H O->X (.returned (.tuple #[])) w):At (bodyPost P fn X) .normal n L H O:=λa w b d=>⟨b.defers,_,by simp[results,c],k w d⟩
end
end
section
variable{w:GD}{H:Hp}{O:List Av}
theorem SH.weaken{a:Hp}(h:SH w a O)(hle:H.le a):SH w H O where
 Ny b o hb:=h.Ny b o (hle.1 b o hb)
 os:=h.os.trans hle.2.1
 output:=h.output.trans hle.2.2.1
 tape:=h.tape.trans hle.2.2.2
 ok:=h.ok
 JC i r b hi hb:=by
  have:=h.JC i r b hi hb;cases he:H.at_ b with
  |none=>rfl
  |some o=>rw[hle.1 b o he]at this;cases this
 nd:=h.nd
theorem SH.aW(h:SH w H O)(k:Nat):SH w H (O.drop k):=
 h.pick (λi=>k+i) (λi r a=>by simpa using a) (λi j _ _ h=>by omega)
end
section
variable {P : Ge} {T : Ee} {E : Dc -> Option BU} {H : Hp} {O : List Av}
theorem Aq.qf{x y:Dc}{t e:Ee}{d:TypeDesc}{len size bytes:Nat}{z:BU}{k:Kj}{i:Int}{cs:Array BU}(ht:P.underlying t=Ac (.array len e))(g:P.underlying e=Ac d)(f:DC d=Br)(n:TI P e size bytes z)(l:E x=Ac (.agg cs))(m:E y=Ac (.int k i))(h:0<=i/\i<len):
  Aq P (.index t x y) T E H O (.agg (cs.extract (i.toNat*size) (i.toNat*size+size))):= .Am λp w o j _ a _=>by
 simp[ID,j,a x _ l,a y _ m,Instr.index,asIntOf,AU ht,h,n.sizeOf,part,Cc g,f]
end
end Go.GK
namespace Go.GK
open Go.RowKit Go.Deep
def Hp.of(W:GD):Hp:= {at_:=λb=>W.heap[b]?,os:=W.os,output:=W.output,tape:=W.tape}
theorem Ahx(W:GD):SH W (Hp.of W) []:=
 ⟨λ_ _ h=>h,rfl,rfl,rfl,λi r h=>by simp at h,λi r b h=>by simp at h,λi j r a b h=>by simp at h⟩
theorem SH.below{W w':GD}{O:List Av}(h:SH w' (Hp.of W) O):Below W.heap.size W w':=by
 have a:∀k,k<W.heap.size->w'.heap[k]?=W.heap[k]?:=λk b=>by have:=h.Ny k W.heap[k] (by simp[Hp.of,b]);rw[this];simp[b]
 refine⟨h.os,h.tape,h.output,?_,a⟩;rcases Agi W.heap.size with c|c;· omega
 ·have:=a (W.heap.size-1) (by omega);rw[show W.heap[W.heap.size-1]?=Ac W.heap[W.heap.size-1] by simp]at this;have:=(Acy.1 this).1;omega
section
variable {H : Type} {enc : Ee × BU -> H} {P : Ge} {w : GD} {base : Nat} {spare : Nat -> Bool} {held : Bool}
theorem Ake{a:Addr}{u:BU}(h:w.cell? a=Ac u):DG (Hp.of w) (.pointer (Ac a)) u:=by
 unfold GD.cell? at h;cases b:w.heap[a.block]? with
 |none=>simp[b]at h
 |some o=>
  cases o with
  |cells c t e=>
   simp only[b]at h;cases d:a.spot with
   |none=>simp[d]at h;exact⟨a,c,t,e,rfl,d,b,h⟩
   |some x=>simp[d]at h
  |_=>simp[b]at h
theorem K9{α:Type}{Q:Nat->α->Prop} :∀n:Nat,(∀i,i<n->∃a,Q i a)->∃l:List α,l.length=n/\∀i a,l[i]?=Ac a->Q i a
 |0,_=>⟨[],rfl,λi a h=>by simp at h⟩
 |n+1,h=>by
  obtain⟨l,d,f⟩:=K9 n λi j=>h i (by omega);obtain⟨a,g⟩:=h n (by omega);refine⟨l++[a],by simp[d],λi b c=>?_⟩;by_cases j:i<n;· rw[Aaa (by omega)]at c;exact f i b c
  ·have e:i=n:=by have:=(No.1 c).1;simp at this;omega
   subst e;rw[Aab (by omega)]at c;simp[d]at c;subst c;exact g
end
end Go.GK
namespace Go.GK
structure iN(P:Ge)(s i off ft:Nat):Prop where
 ex:∃fs f,P.underlying s=Ac (.struct fs)/\fs[i]?=Ac f/\f.offset=off/\f.type=ft/\∃inf,P.info? ft=Ac inf/\inf.size≠0
def gC(P:Ge)(s i:Nat):Option (Nat×Nat×Nat):=
 match P.underlying s with
 |some (.struct fs)=>match fs[i]? with
  |some f=>match P.info? f.type with
   |some a=>Ac (f.offset,f.type,a.size)
   |none=>C7
  |none=>C7
 |_=>C7
theorem iN.of{P:Ge}{s i off b k:Nat}(h:gC P s i=Ac (off,b,k+1)):iN P s i off b:=by
 unfold gC at h;split at h
 ·rename_i d l;split at h
  ·rename_i f g;split at h;· rename_i a j;simp only[Aei,Afc]at h;obtain⟨e,c,m⟩:=h;exact⟨d,f,l,g,e,c,a,by rw[<-c];exact j,by omega⟩
   ·cases h
  ·cases h
 ·cases h
section
variable {P : Ge} {T : Ee} {E : Dc -> Option BU} {H : Hp} {O : List Av} {x y : Dc}
section
variable{s i off:Nat}
theorem KU{w:GD}{g:Nat}{a:Addr}(j:iN P s i off g):(Instr.fieldAt s (.pointer (Ac a)) i).run P w= .ok (.pointer (Ac (a.add off))) w:=by
 obtain⟨o,f,m,c,l,n,e,k,h⟩:=j.ex;subst l n;have d:(Go.sizeOf f.type).run P w= .ok e.size w:=by simp[Go.sizeOf,typeInfo,k]
 simp[Instr.fieldAt,AU m,c,Instr.sureAddr,fieldPlace,d,h]
theorem Ahf{d B o o':Nat}(f:iN P s i off d)(h:E x=Ac (ptr B o))(c:o+off=o'):Aq P (.fieldAddr s x i) T E H O (ptr B o'):= .Am λj w k g _ e _=>by subst c;simp only[ptr]at*;have:=KU (w:=w) (a:=⟨B,o,C7⟩) f;simp[ID,g,e x _ h,this,Addr.add]
theorem Ahq{t:Ee}{s:ByteArray}{k:Kj}{i:Int}{b:UInt8}(ht:P.underlying t=Ac .string)(g:E x=Ac (.string s))(h:E y=Ac (.int k i))(h0:0<=i)(e:s[i.toNat]?=Ac b):Aq P (.index t x y) T E H O (.int .u8 (b.toNat:Nat)):= .Am λj w l f _ d _=>by simp[ID,f,d x _ g,d y _ h,Instr.index,asIntOf,AU ht,h0,e]
end
end
def OK(P:Ge):List Field->List Kj->Nat->Bool
 |f::fs,k::b,j=>f.name != "_" &&f.offset==j&&(match P.underlying f.type with|some (.int a)=>a==k|_=>Ap)&&OK P fs b (j+1)
 | [],[],_=>Br
 |_,_,_=>Ap
def RV(P:Ge)(t:Ee)(a:List Kj):Bool:=
 match P.underlying t with
 |some (.struct fs)=>OK P fs.toList a 0&& !P.stoodInHeld t&& !P.eqGuardType P.depth t
 |_=>Ap
def CM(a:List Kj)(aS:List Int):List BU:=List.zipWith BU.int a aS
theorem EY{P:Ge}{d:Nat}(w:GD):∀(fs:List Field) (g:List Kj) (aS bs:List Int) (h i:List BU),OK P fs g h.length=Br->aS.length=g.length->bs.length=g.length->h.length=i.length->
  (Op.eqFields (d+1) (h++CM g aS).toArray (i++CM g bs).toArray fs).run P w= .ok (decide (aS=bs)) w
 | [],g,aS,bs,h,i,m,j,l,p=>by
  cases g with
  |nil=>simp at j l;subst j l;simp[Op.eqFields]
  |cons=>simp[OK]at m
 |f::fs,g,aS,bs,h,i,m,j,l,p=>by
  cases g with
  |nil=>simp[OK]at m
  |cons k g=>
   cases aS with
   |nil=>simp at j
   |cons a aS=>
    cases bs with
    |nil=>simp at l
    |cons b bs=>
     simp only[OK,AS,bne_iff_ne,ne_eq,beq_iff_eq]at m;obtain⟨⟨⟨u,s⟩,o⟩,v⟩:=m;have n:P.underlying f.type=Ac (.int k):=by
      split at o;· rename_i A n;rw[n];simp at o;rw[o]
      ·cases o
     have t:=EY (P:=P) (d:=d) w fs g aS bs (h++[.int k a]) (i++[.int k b]) (by simpa using v) (by simpa using j) (by simpa using l) (by simp[p]);have q:h++CM (k::g) (a::aS)=(h++[.int k a])++CM g aS:=by simp[CM]
     have r:i++CM (k::g) (b::bs)=(i++[.int k b])++CM g bs:=by simp[CM]
     rw[<-q,<-r]at t;have x:(part f.type (h++CM (k::g) (a::aS)).toArray f.offset).run P w= .ok (.int k a) w:=by simp[part,Cc n,DC,s,q]
     have y:(part f.type (i++CM (k::g) (b::bs)).toArray f.offset).run P w= .ok (.int k b) w:=by simp[part,Cc n,DC,s,r,p]
     have z:(Op.equalIn (d+1) f.type (.int k a) (.int k b)).run P w= .ok (a==b) w:=by simp[Op.equalIn,AU n]
     simp only[Op.eqFields,u,not_false_eq_true,ne_eq,if_true,Sem.run_bind,x,y,z,Result.andThen_ok];by_cases e:a=b;· subst e;simp only[beq_self_eq_true,Ahu,Aee,if_false,t,Ahd,true_and]
     ·simp[e]
section
variable {P : Ge} {T : Ee} {E : Dc -> Option BU} {H : Hp} {O : List Av} {x y : Dc} {Tx Ty : Ee} {ks : List Kj} {xs ys : List Int}
theorem Me{d:Nat}(b:RV P Tx ks=Br)(w:GD)(h1:xs.length=ks.length)(h2:ys.length=ks.length):(Op.equalIn (d+1+1) Tx (.agg (CM ks xs).toArray) (.agg (CM ks ys).toArray)).run P w= .ok (decide (xs=ys)) w/\P.eqGuardType P.depth Tx=Ap:=by
 unfold RV at b;split at b
 ·rename_i e f;simp only[AS,Aff]at b;have c:P.fieldsOf Tx=e:=by simp[Ge.fieldsOf,f]
  refine⟨?_,b.2⟩;rw[run_equalIn_agg w (d+1) Tx _ _ (by rw[c,f]) b.1.2,c];have:=EY (P:=P) (d:=d) w e.toList ks xs ys [] [] b.1.1 h1 h2 rf;simpa using this
 ·cases b
theorem Alb(j:RV P Tx ks=Br)(k:E x=Ac (.agg (CM ks xs).toArray))(l:E y=Ac (.agg (CM ks ys).toArray))(h1:xs.length=ks.length)(h2:ys.length=ks.length):Aq P (.binOp .eql Tx x y Ty) T E H O (.bool (decide (xs=ys))):= .Am λa w o i _ f _=>by have h:=Me (d:=9998) j w h1 h2;have g:=run_eqGuard_agg w .eql Tx x y (CM ks xs).toArray (CM ks ys).toArray h.2;have e:=run_eql_struct (P:=P) w Tx (CM ks xs).toArray (CM ks ys).toArray;rw[h.1]at e;simp only[ID,i,Sem.run_bind,f x _ k,f y _ l,g,Result.andThen_ok,e,Sem.run_pure]
theorem Ale(j:RV P Tx ks=Br)(k:E x=Ac (.agg (CM ks xs).toArray))(l:E y=Ac (.agg (CM ks ys).toArray))(h1:xs.length=ks.length)(h2:ys.length=ks.length):Aq P (.binOp .neq Tx x y Ty) T E H O (.bool (!decide (xs=ys))):= .Am λa w o i _ f _=>by have h:=Me (d:=9998) j w h1 h2;have g:=run_eqGuard_agg w .neq Tx x y (CM ks xs).toArray (CM ks ys).toArray h.2;have e:=run_neq_struct (P:=P) w Tx (CM ks xs).toArray (CM ks ys).toArray;rw[h.1]at e;simp only[ID,i,Sem.run_bind,f x _ k,f y _ l,g,Result.andThen_ok,e,Sem.run_pure]
end
section
variable {P : Ge} {T : Ee} {E : Dc -> Option BU} {H : Hp} {O : List Av}
def sb(s:ByteArray)(i:Nat):Nat:=(s.data.getD i 0).toNat
end
section
variable{l:List J5}{p:Nat->Bool}
def Hu(acc:List Nat):List Edge->Nat
 | []=>0
 |e::es=>(if Region.binds .any e then 2^e.on|||acc.getD e.on 0 else 0)|||Hu acc es
def Nd:List Nat->List J5->List Nat
 |acc,[]=>acc
 |acc,o::os=>Nd (acc++[Hu acc o.after.toList]) os
def Up(l:List J5)(i:Nat):Nat:=(Nd [] l).getD i 0
def HG(l:List J5)(p:Nat->Bool):Prop:= ∀(j:Nat) (o:J5),l[j]?=Ac o->p j=Br->∀e∈o.after,Region.binds .any e=Br->p e.on=Br
theorem Im{acc:List Nat}{j:Nat} :∀ {es:List Edge},(Hu acc es).testBit j=Br->∃e∈es,Region.binds .any e=Br/\(j=e.on\/(acc.getD e.on 0).testBit j=Br)
 | [],h=>by simp[Hu]at h
 |e::es,h=>by
  simp only[Hu,Nat.testBit_or,Ado]at h;rcases h with h|h
  ·split at h;· rename_i g;simp only[Nat.testBit_or,Ado,Nat.testBit_two_pow,decide_eq_true_eq]at h;exact⟨e,by simp,g,h.imp Eq.symm id⟩
   ·simp at h
  ·obtain⟨c,d,f⟩:=Im h;exact⟨c,by simp[d],f⟩
theorem OZ{l:List J5}{p:Nat->Bool}(A:HG l p):∀(os:List J5) (acc:List Nat) (pre:List J5),l=pre++os->acc.length=pre.length->
  (∀i,i<acc.length->∀o,l[i]?=Ac o->(∀e∈o.after,Region.binds .any e=Br->p e.on=Br)->∀j,(acc.getD i 0).testBit j=Br->p j=Br)->
  GH pre.length os=Br->
  ∀i,i<l.length->∀o,l[i]?=Ac o->(∀e∈o.after,Region.binds .any e=Br->p e.on=Br)->∀j,((Nd acc os).getD i 0).testBit j=Br->p j=Br
 | [],acc,pre,q,c,h,_,i,t,o,D,k,j,a=>by subst q;simp at t;exact h i (by omega) o D k j a
 |o::os,acc,pre,q,c,h,v,i,t,E,b,k,j,a=>by
  simp only[GH,AS]at v;refine OZ A os _ (pre++[o]) (by simp[q]) (by simp[c]) ?_ (by simpa using v.2) i t E b k j a;clear a k b t;intro i w s b k j a;by_cases e:i<acc.length;· rw[IS,Aaa e,<-IS]at a;exact h i e s b k j a
  ·have B:i=acc.length:=by simp at w;omega
   subst B;rw[IS,Aab (Aad _)]at a;simp only[Aje,Amb,Acm]at a;obtain⟨e,C,m,a⟩:=Im a;have y:s=o:=by rw[q,c,Aab (Aad _)]at b;simpa using b.symm
   rw[y]at k;have n:e∈o.after:=by simpa using C
   have r:=k e n m;rcases a with rfl|a;· exact r
   ·have x:e.on<acc.length:=by
     have:=(Ajg.1 v.1) e n;simp[m]at this;omega
    have g:∃u,l[e.on]?=Ac u:=by
     have:e.on<l.length:=by rw[q];simp;omega
     exact⟨l[e.on],by simp[this]⟩
    obtain⟨u,g⟩:=g;exact h e.on x u g (A e.on u g r) j a
theorem SM(d:GH 0 l=Br)(f:HG l p){i:Nat}{o:J5}(c:l[i]?=Ac o)(g:∀e∈o.after,Region.binds .any e=Br->p e.on=Br):∀j,(Up l i).testBit j=Br->p j=Br:=
 OZ f l [] [] rfl rfl (λi h=>by simp at h) d i ((No.1 c).1) o c g
def I0(p:Nat->Bool)(i:Nat):Nat->Bool:=λj=>if j=i then Br else p j
end
section
variable {P : Ge} {Q : Exit -> Act -> GD -> Prop} {l : List J5}
section
variable{J:(Nat->Bool)->Act->GD->Prop}
theorem iC(B:GH 0 l=Br)
  (step:∀p a w i o,l[i]?=Ac o->p i=Ap->HG l p->(∀j,(Up l i).testBit j=Br->p j=Br)->(∀j I,l[j]?=Ac I->p j=Br->∀m,(Up l j).testBit m=Br->p m=Br)->J p a w->
   if Region.wanted o (yielded l.toArray a.tmps)then o.wp P a w (J (I0 p i)) Q else J (I0 p i) (a.put o.dst undef) w)
  (K:∀p a w,(∀i,i<l.length->p i=Br)->J p a w->Q .normal a w):
  ∀(f:Nat) (b:Array Bool) (a:Act) (w:GD),b.size=l.length->HG l (λi=>b.getD i Ap)->AH (λi=>b.getD i Ap) l.length=f->
   J (λi=>b.getD i Ap) a w->wpAny P .any l.toArray Q f b a w:=by
 have D:=Nc B;have g:∀(b:Array Bool),b.size=l.length->Region.ready .any l.toArray b=[]->∀i,i<l.length->b.getD i Ap=Br:=by
  intro b n R i;induction i using Nat.strongRecOn with
  |_ i ih=>
   intro N;cases H:b.getD i Ap with
   |true=>rfl
   |false=>
    exfalso;have k:i∈Region.ready .any l.toArray b:=mem_ready.2 ⟨getD_in (by rw[n];exact N) H,l[i],by simp[N],λe U B=>by have:=D i l[i] (by simp[N]) e U B;exact ih e.on (by omega) (by omega)⟩;rw[R]at k;cases k
 intro f;induction f with
 |zero=>
  intro b a w n _ h T;have A:=Sq h;have R:Region.ready .any l.toArray b=[]:=by
   cases W:Region.ready .any l.toArray b with
   |nil=>rfl
   |cons i rs=>
    exfalso;have k:i∈Region.ready .any l.toArray b:=by rw[W];simp
    obtain⟨G,oi,z,_⟩:=mem_ready.1 k;have y:i<l.length:=by simpa using(Acy.1 z).1
    have h2:b.getD i Ap=Br:=A i y;rw[getD_both G]at h2;cases h2
  exact⟨R,K _ a w A T⟩
 |succ f ih=>
  intro b a w n r h T;refine⟨λR=>K _ a w (g b n R) T,λi N=>?_⟩;obtain⟨G,o,z,t⟩:=mem_ready.1 N;have x:l[i]?=Ac o:=by simpa using z
  have y:i<l.length:=(No.1 x).1;have C:=getD_both G;have S:(b.setIfInBounds i Br).size=l.length:=by simp[n]
  have M:(b.setIfInBounds i Br).getD i Ap=Br:=by simp[n,y]
  have E:∀j,j≠i->(b.setIfInBounds i Br).getD j Ap=b.getD j Ap:=λj F=>getD_set_ne Ap (Ne.symm F);have L:HG l (λZ=>(b.setIfInBounds i Br).getD Z Ap):=by
   intro j I F H e U B;show(b.setIfInBounds i Br).getD e.on Ap=Br;have H:(b.setIfInBounds i Br).getD j Ap=Br:=H;by_cases O:j=i;· subst O;have:I=o:=Abo (F.symm.trans x);subst this;exact getD_set_true (t e U B)
   ·rw[E j O]at H;exact getD_set_true (r j I F H e U B)
  have s:AH (λj=>(b.setIfInBounds i Br).getD j Ap) l.length=f:=by have:=V0 (p:=λj=>b.getD j Ap) (q:=λj=>(b.setIfInBounds i Br).getD j Ap) y C M E;omega
  have X:I0 (λj=>b.getD j Ap) i=λj=>(b.setIfInBounds i Br).getD j Ap:=by
   funext j;unfold I0;by_cases e:j=i;· subst e;rw[if_pos rfl];exact M.symm
   ·rw[if_neg e];exact(E j e).symm
  have u:=step (λj=>b.getD j Ap) a w i o x C r (SM B r x t) (λj I F hp=>SM B r F (r j I F hp)) T;rw[X]at u;refine wpOp_mono (λa' w' V=>ih _ a' w' S L s V) ?_;unfold wpOp;simp only[z];split;· rename_i Y;rw[if_pos Y]at u;exact .inl u
  ·rename_i Y;rw[if_neg Y]at u;exact u
theorem LS{id:Nat}(q:P.follows .mixedOrders=Br)(n:GH 0 l=Br)
  (step:∀p a w i o,l[i]?=Ac o->p i=Ap->HG l p->(∀j,(Up l i).testBit j=Br->p j=Br)->(∀j t,l[j]?=Ac t->p j=Br->∀m,(Up l j).testBit m=Br->p m=Br)->J p a w->
   if Region.wanted o (yielded l.toArray a.tmps)then o.wp P a w (J (I0 p i)) Q else J (I0 p i) (a.put o.dst undef) w)
  (e:∀p a w,(∀i,i<l.length->p i=Br)->J p a w->Q .normal a w) {a:Act} {w:GD} (h:J (λ_=>Ap) a {w with drawn:=w.drawn+1}):
  (Code.region id l.toArray Br).wp P Q a w:=by
 refine wp_region_any q ?_;have f:(λi=>(Array.replicate l.length Ap).getD i Ap)=λ_=>Ap:=funext λi=>getD_replicate_false _ _;have:=iC n step e l.length (Array.replicate l.length Ap) a {w with drawn:=w.drawn+1} (by simp) (λj o _ k=>by rw[f]at k;cases k)
  (by
   rw[f];have:∀m,AH (λ_=>Ap) m=m:=by
    intro m;induction m with
    |zero=>rfl
    |succ m s=>
     have r:AH (λ_=>Ap) (m+1)=AH (λ_=>Ap) m+1:=rfl;rw[r,s]
   exact this _)
  (by rw[f];exact h);simpa using this
end
end
section
variable{p q:Nat->Bool}
abbrev Rec:=Nat->BU
def yB(ρ:Rec)(i:Nat)(v:BU):Rec:=λj=>match Nat.beq j i with
 |true=>v
 |false=>ρ j
def BZ(l:List Nat)(r:Nat):Bool:=l.any (Nat.beq r)
theorem AP{l:List Nat}{r:Nat} :BZ l r=Br↔r∈l:=by
 unfold BZ;rw[Acd];constructor;· rintro⟨x,h,e⟩;have:=AI e;subst this;exact h
 ·intro h;exact⟨r,h,by simp⟩
theorem QM(ρ:Rec)(i:Nat)(v:BU):yB ρ i v i=v:=by simp[yB]
def word(p:Nat->Bool)(i:Nat):BitVec 64:=(BitVec.ofBoolListLE ((List.range 64).map λj=>p (64*i+j))).cast (by simp)
theorem GW(p:Nat->Bool)(i j:Nat):(word p i).getLsbD j=(decide (j<64)&&p (64*i+j)):=by
 simp only[word,BitVec.getLsbD_cast,BitVec.getLsbD_ofBoolListLE];by_cases h:j<64;· simp[h]
 ·simp[h]
def NN(p:Nat->Bool):Array BU:= #[KP (word p 0),KP (word p 1),KP (word p 2),KP (word p 3)]
def bs(p:Nat->Bool):BU:= .agg (NN p)
theorem Wi(p:Nat->Bool)(i:Nat)(h:i<4):(NN p)[i]?=Ac (KP (word p i)):=by
 unfold NN;match i,h with
 |0,_=>rfl
 |1,_=>rfl
 |2,_=>rfl
 |3,_=>rfl
theorem XU(h:∀x,x<256->p x=q x):NN p=NN q:=by
 have e:∀i,i<4->word p i=word q i:=λi a=>by apply Ame;intro j b;rw[GW,GW,h _ (by omega)]
 unfold NN;rw[e 0 (by omega),e 1 (by omega),e 2 (by omega),e 3 (by omega)]
theorem dW{a b:BitVec 64}(h:KP a=KP b):a=b:=by simp only[KP,BU.int.injEq,true_and]at h;exact BitVec.eq_of_toNat_eq (by omega)
theorem iy(h:NN p=NN q):∀x,x<256->p x=q x:=by intro x e;have b:=Wi p (x/64) (by omega);rw[h,Wi q (x/64) (by omega)]at b;have c:=dW (Abo b);have a:=GW p (x/64) (x %64);rw[<-c,GW]at a;have d:x %64<64:=Nat.mod_lt _ (by decide);simp only[d,decide_true,Aht]at a;rw[show 64*(x/64)+x %64=x by omega]at a;exact a.symm
theorem XR:bs p=bs q↔∀x,x<256->p x=q x:=
 ⟨λh=>iy (by unfold bs at h;injection h),λh=>by unfold bs;rw[XU h]⟩
theorem iw(p:Nat->Bool):∀u∈NN p,u.oneCell'=Br:=by intro u a;simp[NN]at a;rcases a with rfl|rfl|rfl|rfl<;>rfl
attribute [irreducible] word
end
section
variable {P : Ge}
section
variable{e:Ee}{k:Kj}
theorem FE{d:Nat}{e:Ee}{k:Kj}(c:P.underlying e=Ac (.int k))(h1:P.cellsOf e=1)(w:GD)(xs ys:List Int):∀(is:List Nat),(∀i∈is,i<xs.length/\i<ys.length)->
  (Op.eqItems (d+1) e (P.cellsOf e) (xs.map (BU.int k)).toArray (ys.map (BU.int k)).toArray is).run P w= .ok (is.all λi=>xs[i]?==ys[i]?) w
 | [],_=>by simp[Op.eqItems]
 |i::is,h=>by
  have b:=h i (by simp);have l:=FE (d:=d) c h1 w xs ys is (λj g=>h j (by simp[g]));have m:(part e (xs.map (BU.int k)).toArray (i*P.cellsOf e)).run P w= .ok (.int k xs[i]) w:=by simp[part,Cc c,DC,h1,b.1]
  have n:(part e (ys.map (BU.int k)).toArray (i*P.cellsOf e)).run P w= .ok (.int k ys[i]) w:=by simp[part,Cc c,DC,h1,b.2]
  have o:(Op.equalIn (d+1) e (.int k xs[i]) (.int k ys[i])).run P w= .ok (xs[i]==ys[i]) w:=by simp[Op.equalIn,AU c]
  simp only[Op.eqItems,Sem.run_bind,m,n,o,Result.andThen_ok];by_cases f:xs[i]=ys[i];· simp only[f,beq_self_eq_true,Ahu,Aee,if_false,l,Alx];simp[b.1,b.2,f]
  ·simp[b.1,b.2,f]
theorem N5{t:Ee}{n:Nat}{bytes:Nat}{z:BU}(ht:P.underlying t=Ac (.array n e))(f:P.underlying e=Ac (.int k))(m:TI P e 1 bytes z)(w:GD)(xs ys:List Int)(o:xs.length=n)(p:ys.length=n):
  (Op.equal t (.agg (xs.map (BU.int k)).toArray) (.agg (ys.map (BU.int k)).toArray)).run P w= .ok (decide (xs=ys)) w:=by
 obtain⟨i,b,l,_⟩:=m.ex;have c:P.cellsOf e=1:=by simp[Ge.cellsOf,b,l]
 have key:∀d,(Op.equalIn (d+1+1) t (.agg (xs.map (BU.int k)).toArray) (.agg (ys.map (BU.int k)).toArray)).run P w= .ok (decide (xs=ys)) w:=λd=>by
  rw[run_equalIn_array w (d+1) _ _ ht b,FE f c w xs ys _ (λi b=>by have:=Abb.1 b;omega)];congr 1;rw[Aeh];simp only[OF,Abb,beq_iff_eq,decide_eq_true_iff];constructor
  ·intro h;apply Agp;intro j;by_cases g:j<n;· exact h j g
   ·rw[Acj (by omega),Acj (by omega)]
  ·intro h j _;rw[h]
 unfold Op.equal Op.maxDepth;exact key 9998
end
end
section
variable {P : Ge} {T : Ee} {E : Dc -> Option BU} {H : Hp} {O : List Av} {x y : Dc} {Tx Ty e : Ee} {k : Kj} {n bytes : Nat} {z : BU}
section
variable{p q:Nat->Bool}
theorem Ajq{xs ys:List Int}(j:P.eqGuardType P.depth Tx=Ap)(ht:P.underlying Tx=Ac (.array n e))(i:P.underlying e=Ac (.int k))(q:TI P e 1 bytes z)(m:E x=Ac (.agg (xs.map (BU.int k)).toArray))(p:E y=Ac (.agg (ys.map (BU.int k)).toArray))(h1:xs.length=n)(h2:ys.length=n):
  Aq P (.binOp .eql Tx x y Ty) T E H O (.bool (decide (xs=ys))):= .Am λa w o l _ c _=>by
 have f:=N5 ht i q w xs ys h1 h2;have g:=run_eqGuard_agg w .eql Tx x y (xs.map (BU.int k)).toArray (ys.map (BU.int k)).toArray j;have h:(binOp .eql Tx (.agg (xs.map (BU.int k)).toArray) (.agg (ys.map (BU.int k)).toArray)).run P w= .ok (.bool (decide (xs=ys))) w:=by show(do pure (.bool (<-Op.equal Tx _ _)):Sem BU).run P w=_;simp[f]
 simp only[ID,l,Sem.run_bind,c x _ m,c y _ p,g,Result.andThen_ok,h,Sem.run_pure]
theorem Ajr{xs ys:List Int}(j:P.eqGuardType P.depth Tx=Ap)(ht:P.underlying Tx=Ac (.array n e))(i:P.underlying e=Ac (.int k))(q:TI P e 1 bytes z)(m:E x=Ac (.agg (xs.map (BU.int k)).toArray))(p:E y=Ac (.agg (ys.map (BU.int k)).toArray))(h1:xs.length=n)(h2:ys.length=n):
  Aq P (.binOp .neq Tx x y Ty) T E H O (.bool (!decide (xs=ys))):= .Am λa w o l _ c _=>by
 have f:=N5 ht i q w xs ys h1 h2;have g:=run_eqGuard_agg w .neq Tx x y (xs.map (BU.int k)).toArray (ys.map (BU.int k)).toArray j;have h:(binOp .neq Tx (.agg (xs.map (BU.int k)).toArray) (.agg (ys.map (BU.int k)).toArray)).run P w= .ok (.bool (!decide (xs=ys))) w:=by show(do pure (.bool (!(<-Op.equal Tx _ _))):Sem BU).run P w=_;simp[f]
 simp only[ID,l,Sem.run_bind,c x _ m,c y _ p,g,Result.andThen_ok,h,Sem.run_pure]
def dO(p q:Nat->Bool):Bool:=(List.range 256).all λx=>p x==q x
theorem gH:dO p q=Br↔∀x,x<256->p x=q x:=by simp[dO,OF]
theorem qA:dO p q=Br↔bs p=bs q:=by rw[gH,XR]
def La(p:Nat->Bool):List Int:=[((word p 0).toNat:Int),((word p 1).toNat:Int),((word p 2).toNat:Int),((word p 3).toNat:Int)]
theorem SG:decide (La p=La q)=dO p q:=by
 rw[Aeh,decide_eq_true_iff,qA];have:∀p,bs p= .agg ((La p).map (BU.int .u64)).toArray:=λp=>rfl;rw[this,this];constructor;· intro h;rw[h]
 ·intro h;have c:=congrArg (λv:BU=>match v with| .agg a=>a.toList|_=>[]) h;simpa [La]using c
theorem Aja(b:P.eqGuardType P.depth Tx=Ap)(ht:P.underlying Tx=Ac (.array 4 e))(a:P.underlying e=Ac (.int .u64))(f:TI P e 1 bytes z)(c:E x=Ac (.agg (NN p)))(d:E y=Ac (.agg (NN q))):
  Aq P (.binOp .eql Tx x y Ty) T E H O (.bool (dO p q)):=by
 have:=Ajq (P:=P) (T:=T) (H:=H) (O:=O) (Ty:=Ty) (xs:=La p) (ys:=La q) b ht a f c d rfl rfl;rwa [SG]at this
theorem Aiw(b:P.eqGuardType P.depth Tx=Ap)(ht:P.underlying Tx=Ac (.array 4 e))(a:P.underlying e=Ac (.int .u64))(f:TI P e 1 bytes z)(c:E x=Ac (.agg (NN p)))(d:E y=Ac (.agg (NN q))):
  Aq P (.binOp .neq Tx x y Ty) T E H O (.bool (!dO p q)):=by
 have:=Ajr (P:=P) (T:=T) (H:=H) (O:=O) (Ty:=Ty) (xs:=La p) (ys:=La q) b ht a f c d rfl rfl;rwa [SG]at this
end
end
section
variable{α:Type}
def idx(l:List α)(i:Int):Option α:=if 0<=i then l[i.toNat]? else C7
def Af(p:Prop) [Decidable p](k:Option α):Option α:=if p then k else C7
def Ab{β:Type}(x:Option α)(k:α->Option β):Option β:=match x with
 |some a=>k a
 |none=>C7
def Ad{X R:Type} :Nat->(X->(X->Option R)->Option R)->X->Option R
 |0,_,_=>C7
 |n+1,b,x=>b x (Ad n b)
end
section
variable {α β X R : Type}
section
variable{x:α}{l:List α}{i:Int}
theorem AQ{p:Prop} [Decidable p]{k:Option α}{r:α}(h:Af p k=Ac r):p/\k=Ac r:=by
 unfold Af at h;split at h;· exact⟨‹p›,h⟩
 ·cases h
theorem Bp{x:Option α}{k:α->Option β}{r:β}(h:Ab x k=Ac r):∃a,x=Ac a/\k a=Ac r:=by
 cases x with
 |none=>cases h
 |some a=>exact⟨a,rfl,h⟩
theorem TU{n:Nat}{b:X->(X->Option R)->Option R}{x:X}{r:R}(h:Ad n b x=Ac r):∃m,n=m+1/\b x (Ad m b)=Ac r:=by
 cases n with
 |zero=>cases h
 |succ m=>exact⟨m,rfl,h⟩
theorem Hi(h:idx l i=Ac x):(0<=i/\i<(l.length:Nat))/\l[i.toNat]?=Ac x:=by
 unfold idx at h;split at h;· have:=(No.1 h).1;exact⟨⟨by assumption,by omega⟩,h⟩
 ·cases h
theorem av(h:idx l i=Ac x):0<=i/\i<(l.length:Nat):=(Hi h).1
end
end
structure Cd(α:Type)where
 sz:Nat
 BI:Hp->α->List BU->Prop
 len:∀ {H a cs},BI H a cs->cs.length=sz
 mono:∀ {H H' a cs},H.le H'->BI H a cs->BI H' a cs
 one:∀ {H a cs},BI H a cs->∀u∈cs,u.oneCell'=Br
def AZ{α:Type}(c:Cd α)(H:Hp):List α->List BU->Prop
 | [],xs=>xs=[]
 |a::l,xs=> ∃cs ys,xs=cs++ys/\c.BI H a cs/\AZ c H l ys
structure GI{α:Type}(c:Cd α)(H:Hp)(l:List α)(v:BU):Prop where
 ex:∃xs,Sl H v c.sz l.length xs/\AZ c H l xs
 le:l.length<=9223372036854775807
def qY:Cd Int where
 sz:=1
 BI _ n cs:=cs=[.int .i64 n]
 len h:=by subst h;rfl
 mono _ h:=h
 one h:=by subst h;intro u hu;simp at hu;subst hu;rfl
def cU8:Cd Int where
 sz:=1
 BI _ n cs:=cs=[.int .u8 n]/\0<=n/\n<=255
 len h:=by rw[h.1];rfl
 mono _ h:=h
 one h:=by rw[h.1];intro u hu;simp at hu;subst hu;rfl
def cB:Cd Bool where
 sz:=1
 BI _ b cs:=cs=[.bool b]
 len h:=by subst h;rfl
 mono _ h:=h
 one h:=by subst h;intro u hu;simp at hu;subst hu;rfl
abbrev Au:=List UInt8
def sv(s:Au):BU:= .string ⟨⟨s⟩⟩
def cS:Cd Au where
 sz:=1
 BI _ s cs:=cs=[sv s]
 len h:=by subst h;rfl
 mono _ h:=h
 one h:=by subst h;intro u hu;simp at hu;subst hu;rfl
abbrev xZ:=Nat->Bool
def cBs:Cd xZ where
 sz:=4
 BI _ p cs:=cs=(NN p).toList
 len h:=by subst h;rfl
 mono _ h:=h
 one h:=by subst h;intro u hu;exact iw _ u (by simpa using hu)
def cP{α β:Type}(c:Cd α)(d:Cd β):Cd (α×β)where
 sz:=c.sz+d.sz
 BI H a cs:= ∃c1 c2,cs=c1++c2/\c.BI H a.1 c1/\d.BI H a.2 c2
 len h:=by obtain⟨c1,c2,rfl,h1,h2⟩:=h;simp[c.len h1,d.len h2]
 mono hl h:=by obtain⟨c1,c2,rfl,h1,h2⟩:=h;exact⟨c1,c2,rfl,c.mono hl h1,d.mono hl h2⟩
 one h:=by
  obtain⟨c1,c2,rfl,h1,h2⟩:=h;intro u hu;rcases AT.1 hu with hu|hu;· exact c.one h1 u hu
  ·exact d.one h2 u hu
section
variable {α : Type} {c : Cd α} {H H' : Hp}
section
variable{l:List α}{v:BU}{xs:List BU}{x:α}
theorem AZ.len:∀ {l:List α} {xs:List BU},AZ c H l xs->xs.length=l.length*c.sz
 | [],xs,h=>by simp only[AZ]at h;subst h;simp
 |a::l,xs,⟨f,g,e,b,d⟩=>by subst e;simp[c.len b,AZ.len d,Adm,Nat.add_comm]
theorem AZ.mono(a:H.le H'):∀ {l:List α} {xs:List BU},AZ c H l xs->AZ c H' l xs
 | [],_,h=>h
 |_::_,_,⟨b,g,e,d,f⟩=>⟨b,g,e,c.mono a d,AZ.mono a f⟩
theorem AZ.one:∀ {l:List α} {xs:List BU},AZ c H l xs->∀u∈xs,u.oneCell'=Br
 | [],xs,h,u,a=>by simp only[AZ]at h;subst h;cases a
 |_::_,_,⟨f,g,e,b,d⟩,u,a=>by
  subst e;rcases AT.1 a with a|a;· exact c.one b u a
  ·exact AZ.one d u a
theorem AZ.app:∀ {l d:List α} {xs a:List BU},AZ c H l xs->AZ c H d a->AZ c H (l++d) (xs++a)
 | [],_,xs,_,h,b=>by simp only[AZ]at h;subst h;simpa using b
 |_::_,_,_,_,⟨f,j,e,g,i⟩,b=>by subst e;exact⟨f,_,by rw[Aam],g,AZ.app i b⟩
theorem AZ.get:∀ {l:List α} {xs:List BU} {i:Nat} {x:α},AZ c H l xs->l[i]?=Ac x->∃cs,c.BI H x cs/\(∀j u,cs[j]?=Ac u->xs[i*c.sz+j]?=Ac u)/\cs=(xs.drop (i*c.sz)).take c.sz
 | [],_,_,_,_,h=>by simp at h
 |a::l,_,0,x,⟨cs,p,e,b,g⟩,h=>by
  simp at h;subst h;subst e;refine⟨cs,b,λj u d=>?_,?_⟩;· have:=(No.1 d).1;rw[Aet,Abi,Aaa this];exact d
  ·rw[Aet,Afi,Ack (by rw[c.len b];exact Aad _),Abm (by rw[c.len b];exact Aad _)]
 |a::l,_,i+1,x,⟨cs,p,e,b,g⟩,h=>by
  subst e;obtain⟨f,m,n,o⟩:=AZ.get g (by simpa using h);have e:(i+1)*c.sz=cs.length+i*c.sz:=by rw[c.len b,Adm];omega
  refine⟨f,m,λj u d=>?_,?_⟩;· rw[e,Adu,Aab (by omega),Ade];exact n j u d
  ·rw[e,Acu,Abf (by omega),Ade,Abp];exact o
theorem AZ.set:∀ {l:List α} {xs:List BU} {i:Nat} {y:α} {vs:List BU},AZ c H l xs->i<l.length->c.BI H y vs->AZ c H (l.set i y) (CG xs (i*c.sz) vs)
 | [],_,_,_,_,_,h,_=>by simp at h
 |a::l,_,0,y,vs,⟨b,j,e,d,g⟩,_,f=>by subst e;refine⟨vs,j,?_,f,g⟩;unfold CG;rw[Aet,Aep,Abp,Abi,Acu,Abf (by rw[c.len d,c.len f];exact Aad _),c.len d,c.len f];simp
 |a::l,_,i+1,y,vs,⟨b,j,e,d,g⟩,k,f=>by
  subst e;refine⟨b,CG j (i*c.sz) vs,?_,d,AZ.set g (by simpa using k) f⟩;have e:(i+1)*c.sz=b.length+i*c.sz:=by rw[c.len d,Adm];omega
  unfold CG;rw[e,Aed,Abm (by omega),Ade,Adu,Acu,Abf (by omega:b.length<=b.length+(i*c.sz+vs.length)),Ade];simp
theorem eo(xs:List BU)(k off s:Nat)(cs vs:List BU)(f:cs=(xs.drop k).take s)(b:cs.length=s)(l:off+vs.length<=s):CG xs (k+off) vs=CG xs k (CG cs off vs):=by
 subst f;have m:s<=(xs.drop k).length:=by rw[Aas]at b;omega
 have j:(CG ((xs.drop k).take s) off vs).length=s:=by rw[Ix _ _ _ (by rw[b];exact l)];exact b
 unfold CG at*;rw[j];have g:xs.take (k+off)=xs.take k++(xs.drop k).take off:=by rw[List.take_add]
 have h:((xs.drop k).take s).take off=(xs.drop k).take off:=by rw[Ahi,Adl (by omega)]
 have i:xs.drop (k+off+vs.length)=((xs.drop k).take s).drop (off+vs.length)++xs.drop (k+s):=by
  have:xs.drop (k+off+vs.length)=(xs.drop k).drop (off+vs.length):=by rw[Adi];congr 1;omega
  rw[this];have e:xs.drop k=(xs.drop k).take s++xs.drop (k+s):=by have:=(Ace s (xs.drop k)).symm;rw[Adi]at this;exact this
  conv=>lhs;rw[e]
  rw[Acu,b];have:off+vs.length-s=0:=by omega
  rw[this,Afi]
 rw[g,h,i];simp
theorem AZ.part{i off:Nat}{y:α}{cs vs:List BU}(h:AZ c H l xs)(f:l[i]?=Ac x)(b:cs=(xs.drop (i*c.sz)).take c.sz)(a:cs.length=c.sz)(e:off+vs.length<=c.sz)(g:c.BI H y (CG cs off vs)):
  AZ c H (l.set i y) (CG xs (i*c.sz+off) vs):=by
 rw[eo xs _ off c.sz cs vs b a e];exact h.set (No.1 f).1 g
theorem AZ.take:∀ {l:List α} {xs:List BU} (m:Nat),AZ c H l xs->AZ c H (l.take m) (xs.take (m*c.sz))
 | [],xs,m,h=>by simp only[AZ]at h;subst h;simp[AZ]
 |a::l,xs,0,h=>by simp[AZ]
 |a::l,_,m+1,⟨b,g,e,d,f⟩=>by subst e;refine⟨b,g.take (m*c.sz),?_,d,AZ.take m f⟩;rw[show(m+1)*c.sz=b.length+m*c.sz by rw[c.len d,Adm];omega,Aed,Abm (by omega),Ade]
theorem Aii{z:α}{zs:Array BU}(j:c.BI H z zs.toList)(h0:0<c.sz):∀m,AZ c H (List.replicate m z) (madeCells zs (m*c.sz)).toList:=by
 have g:zs.size=c.sz:=by rw[<-c.len j];simp
 have key:∀m,(madeCells zs (m*c.sz)).toList=(List.replicate m zs.toList).flatten:=by
  intro m;apply Ads;· simp[madeCells,List.length_flatten,g]
  ·intro i k e;simp only[madeCells,Array.toList_map,Array.toList_range,Adf,Aex];have o:i<m*c.sz:=by simpa [madeCells]using k
   have:∀m i (h:i<m*c.sz) (e:i<(List.replicate m zs.toList).flatten.length),(List.replicate m zs.toList).flatten[i]=zs[i %zs.size]! :=by
    intro m;induction m with
    |zero=>intro i h;simp at h
    |succ m f=>
     intro i h e;simp only[List.replicate_succ,List.flatten_cons];by_cases b:i<zs.size;· rw[Aen (by simpa using b),Aec b];simp[b]
     ·rw[Aeg (by simpa using b)];have l:i-zs.toList.length<m*c.sz:=by simp[g];rw[Adm]at h;omega
      rw[f _ l];have n:(i-zs.toList.length) %zs.size=i %zs.size:=by
       have:zs.size<=i:=by omega
       simp only[Ahs];conv=>rhs;rw[<-Nat.sub_add_cancel this,Nat.add_mod_right]
      rw[n]
   exact(this m i o e).symm
 intro m;rw[key];induction m with
 |zero=>exact rfl
 |succ m f=>exact⟨zs.toList,(List.replicate m zs.toList).flatten,by simp[List.replicate_succ],j,f⟩
theorem GI.mono(a:H.le H')(h:GI c H l v):GI c H' l v:=by obtain⟨⟨f,b,d⟩,e⟩:=h;exact⟨⟨f,b.mono a,d.mono a⟩,e⟩
theorem GI.sl(h:GI c H l v):SQ v l.length:=by obtain⟨⟨e,a,b⟩,d⟩:=h;exact a.sl
theorem GI.one(h:GI c H l v):v.oneCell'=Br:=by rcases h.sl with⟨rfl,_⟩|⟨a,cap,rfl,_⟩<;>rfl
theorem GI.nil:GI c H [] (.slice C7 0 0):=⟨⟨[],Sl.nil H _,rfl⟩,by simp⟩
theorem GI.get{i:Int}(h:GI c H l v)(hi:idx l i=Ac x):∃cs,c.BI H x cs/\∀j u,cs[j]?=Ac u->DG H (AO v (i.toNat*c.sz+j)) u:=by obtain⟨⟨k,d,e⟩,g⟩:=h;obtain⟨cs,a,b,_⟩:=e.get (Hi hi).2;exact⟨cs,a,λj u f=>d.cells _ u (b j u f)⟩
theorem GI.of{n:Nat}(h:Sl H v c.sz n xs)(b:n=l.length)(d:AZ c H l xs)(a:l.length<=9223372036854775807):GI c H l v:=by subst b;exact⟨⟨xs,h,d⟩,a⟩
end
end
section
variable{α:Type}
def cL(c:Cd α):Cd (List α)where
 sz:=1
 BI H l cs:= ∃v,cs=[v]/\GI c H l v
 len h:=by obtain⟨v,rfl,_⟩:=h;rfl
 mono hl h:=by obtain⟨v,e,h⟩:=h;exact⟨v,e,h.mono hl⟩
 one h:=by obtain⟨v,rfl,h⟩:=h;intro u hu;simp at hu;subst hu;exact h.one
def cA(n:Nat)(c:Cd α):Cd (List α)where
 sz:=n*c.sz
 BI H l cs:=l.length=n/\AZ c H l cs
 len h:=by rw[h.2.len,h.1]
 mono hl h:=⟨h.1,h.2.mono hl⟩
 one h:=h.2.one
end
section
variable {P : Ge} {T : Ee} {E : Dc -> Option BU} {H : Hp} {O : List Av} {x : Dc} {t : Ee} {d : TypeDesc}
theorem Ajw{p u:BU}(ht:P.underlying t=Ac d)(i:DC d=Ap)(e:E x=Ac p)(h:DG H p u):Aq P (.load t x) T E H O u:= .Am λm w o k _ j l=>by obtain⟨a,f,g⟩:=h.cell l;rw[f]at e;simp[ID,k,j x _ e,Instr.loadAt,Instr.sureAddr,Cv ht i g]
theorem Aiz{v:BU}{k bytes:Nat}{z:BU}{vs:List BU}(ht:P.underlying t=Ac d)(m:DC d=Br)(f:TI P t vs.length bytes z)(h0:vs.isEmpty=Ap)(g:E x=Ac (AO v k))(l:∀j u,vs[j]?=Ac u->DG H (AO v (k+j)) u):
  Aq P (.load t x) T E H O (.agg vs.toArray):= .Am λr w o p _ n q=>by
 obtain⟨a,h,i⟩:=rR.cells q (v:=v) (k:=k) (by intro e;subst e;simp at h0) l;rw[h]at g;simp[ID,p,n x _ g,Instr.loadAt,Instr.sureAddr,Cw (w:=w) ht m f i]
end
section
variable {P : Ge} {Q : Exit -> Act -> GD -> Prop} {n : Nat} {L L' : List (Nat × BU)} {H : Hp} {O : List Av}
section
variable{w:GD}
def Rn(a:List Nat)(k:Nat)(O:List Av):List Av:=a.filterMap (O[·]?)++O.drop k
def Cf:List Nat->Bool
 | []=>Br
 |k::a=> !BZ a k&&Cf a
theorem KY:∀ {d:List Nat},Cf d=Br->∀(i j a:Nat),d[i]?=Ac a->d[j]?=Ac a->i=j
 | [],_,i,_,a,h,_=>by simp at h
 |k::d,e,i,j,a,b,c=>by
  simp only[Cf,AS,Aff]at e;have f:∀q,d[q]?=Ac k->False:=λq g=>by have:=AP.2 (Aai g);rw[e.1]at this;cases this
  cases i with
  |zero=>
   cases j with
   |zero=>rfl
   |succ j=>simp at b c;subst b;exact(f j c).elim
  |succ i=>
   cases j with
   |zero=>simp at b c;subst c;exact(f i b).elim
   |succ j=>rw[KY e.2 i j a (by simpa using b) (by simpa using c)]
theorem SH.Rn(a:List Nat)(k:Nat)(p:(a.all λq=>Nat.blt q k)=Br)(u:Cf a=Br)(A:k<=O.length)(h:SH w H O):SH w H (Rn a k O):=by
 have m:∀q∈a,q<O.length:=λq b=>by have:=OF.1 p q b;simp at this;omega
 have g:∀q∈a,q<k:=λq b=>by have:=OF.1 p q b;simpa using this
 have o:∀a:List Nat,(∀q∈a,q<O.length)->a.filterMap (O[·]?)=a.map (λq=>O.getD q .emp):=by
  intro a;induction a with
  |nil=>intro _;rfl
  |cons q a v=>
   intro h;have b:=h q (by simp);rw[Adj,BY b,Aap,v λx s=>h x (by simp[s])];simp[b]
 have t:=o a m;refine h.pick (λi=>if i<a.length then a.getD i 0 else k+(i-a.length)) (λi r l=>?_) (λi j f z e=>?_)
 ·unfold GK.Rn at l;rw[t]at l;by_cases f:i<a.length;· rw[Aaa (by simpa using f)]at l;have b:a[i]<O.length:=m _ (AN f);simp only[Abx,BY f,Adk]at l;simp only[f,if_true,IS,BY f,Acm];rw[IS,BY b]at l;rw[BY b];exact l
  ·rw[Aab (by simpa using f)]at l;simp only[f,if_false];simpa using l
 ·by_cases c:i<a.length<;>by_cases d:j<a.length;· rw[if_pos c,if_pos d]at e;refine KY u i j a[i] (by simp[c]) ?_;simp only[IS,BY c,BY d,Acm]at e;rw[BY d,e]
  ·rw[if_pos c,if_neg d]at e;have:=g _ (AN c);simp only[IS,BY c,Acm]at e;omega
  ·rw[if_neg c,if_pos d]at e;have:=g _ (AN d);simp only[IS,BY d,Acm]at e;omega
  ·rw[if_neg c,if_neg d]at e;omega
theorem SH.Mk(b:SH w H O){i size m:Nat}{v:BU}{e:Ee}{xs:List BU}(hi:O[i]?=Ac (.row v e size m xs)):m<=9223372036854775807:=by
 have h:=b.ok i _ hi;simp only[Av.ok]at h;rcases h.2 with⟨rfl,rfl⟩|⟨g,cap,cur,rfl,_,_,c,a,_⟩;· omega
 ·simp only[maxLen]at a;omega
end
end
abbrev Dn(n:Int):Prop:= -9223372036854775808<=n/\n<=9223372036854775807
abbrev F8(n:Int):Prop:=0<=n/\n<=255
abbrev Ag:Nat:=1099511627776
section
variable {P : Ge} {T : Ee} {E : Dc -> Option BU} {H : Hp} {O : List Av} {x y : Dc}
section
variable{t:Ee}{b a s:Au}{off:Nat}{i:Int}
theorem Aq.nilCheck{b:Nat}(d:E x=Ac (ptr b off)):Aq P (.nilCheck x) T E H O (ptr b off):= .Am λa w o f _ e _=>by simp only[ptr]at d;simp[ID,f,e x _ d,ptr]
theorem Aiy(ht:P.underlying t=Ac .string)(b:E x=Ac (sv s)):Aq P (.call {callee:= .builtin .len,args:= #[x],argTypes:= #[t]}) T E H O (.int .i64 ((s.length:Nat):Int)):=by have:=Ali (P:=P) (T:=T) (H:=H) (O:=O) ht b;exact this
def ER(s:Au)(i:Int):Option Int:=if 0<=i then(s[i.toNat]?).map (λb=>(b.toNat:Int))else C7
theorem gk{x:Int}(h:ER s i=Ac x):(0<=i/\i<(s.length:Nat))/\0<=x/\x<=255:=by
 unfold ER at h;split at h;· cases a:s[i.toNat]? with
  |none=>rw[a]at h;cases h
  |some b=>
   rw[a]at h;simp at h;have:=(No.1 a).1;have:=b.toNat_lt;omega
 ·cases h
theorem Ako{k:Kj}{z:Int}(ht:P.underlying t=Ac .string)(e:E x=Ac (sv s))(f:E y=Ac (.int k i))(h:ER s i=Ac z):Aq P (.index t x y) T E H O (.int .u8 z):=by
 unfold ER at h;split at h;· rename_i c;cases a:s[i.toNat]? with
  |none=>rw[a]at h;cases h
  |some b=>
   rw[a]at h;simp at h;subst h;exact Ahq ht e f c (by have d:=(No.1 a).1;show ByteArray.mk (Array.mk s) |>.data[i.toNat]?=Ac b;simpa using a)
 ·cases h
theorem J8(a:Au):(ByteArray.mk (Array.mk a)).toList=a:=by rw[ByteArray.toList_eq]
theorem Aie{Ty:Ee}(ht:P.underlying t=Ac .string)(f:E x=Ac (sv a))(g:E y=Ac (sv b)):Aq P (.binOp .eql t x y Ty) T E H O (.bool (decide (a=b))):= .Am λi w o e _ d _=>by
 have h:(a==b)=decide (a=b):=by rw[Aeh];simp
 simp only[sv]at*;simp[ID,e,d x _ f,d y _ g,eqGuard,binOp,Op.stringOp,J8,h]
theorem Akr{Ty:Ee}(ht:P.underlying t=Ac .string)(f:E x=Ac (sv a))(g:E y=Ac (sv b)):Aq P (.binOp .neq t x y Ty) T E H O (.bool (!decide (a=b))):= .Am λi w o e _ d _=>by
 have h:(a==b)=decide (a=b):=by rw[Aeh];simp
 simp only[sv]at*;simp[ID,e,d x _ f,d y _ g,eqGuard,binOp,Op.stringOp,J8,bne,h]
theorem Aid{Ty:Ee}(f:E x=Ac (sv a))(g:E y=Ac (sv b)):Aq P (.binOp .lss t x y Ty) T E H O (.bool (Op.bytesLess a b)):= .Am λh w o e _ d _=>by simp only[sv]at*;simp[ID,e,d x _ f,d y _ g,eqGuard,binOp,Op.stringOp,J8]
theorem Aky{Ty:Ee}(k:E x=Ac (sv a))(l:E y=Ac (sv b))(h:a.length+b.length<=Ag):Aq P (.binOp .add t x y Ty) T E H O (sv (a++b)):= .Am λm w o j _ d _=>by
 have g:¬(((ByteArray.mk (Array.mk a)).size+(ByteArray.mk (Array.mk b)).size:Nat):Int)>Kj.i64.max:=by have e:(ByteArray.mk (Array.mk a)).size=a.length:=rfl;have f:(ByteArray.mk (Array.mk b)).size=b.length:=rfl;rw[e,f];simp[Kj.max,Kj.signed,Kj.bits,Ag]at*;omega
 have i:ByteArray.mk (Array.mk a)++ByteArray.mk (Array.mk b)=ByteArray.mk (Array.mk (a++b)):=by apply ByteArray.ext;rw[ByteArray.data_append];simp
 simp only[sv]at*;simp only[ID,j,d x _ k,d y _ l,eqGuard,binOp,Op.stringOp,if_neg g,i];simp
theorem Ajs{d:TypeDesc}{B i bytes:Nat}{z:BU}{cs:Array BU}{l:Ee}{f:Nat×Nat}{vs:List BU}(ht:P.underlying t=Ac d)(g:DC d=Br)(c:TI P t vs.length bytes z)(k:E x=Ac (ptr B off))(hi:O[i]?=Ac (.Ah B (.cells cs l f)))
  (h:(cs.toList.drop off).take vs.length=vs):Aq P (.load t x) T E H O (.agg vs.toArray):=
 Alg ht g c k hi λj u e=>by
  have b:=(No.1 e).1;have:((cs.toList.drop off).take vs.length)[j]?=Ac u:=by rw[h];exact e
  rw[Aez]at this;simp[b]at this;simpa using this
end
end
section
variable {P : Ge} {Q : Exit -> Act -> GD -> Prop} {n : Nat} {L : List (Nat × BU)} {H : Hp} {O : List Av} {ops : Array J5} {rest : List J5} {T : Ee}
variable {α : Type} {c : Cd α}
theorem SH.Za{w:GD}(b:SH w H O){i size m:Nat}{v:BU}{e:Ee}{xs:List BU}(hi:O[i]?=Ac (.row v e size m xs)):v.oneCell'=Br:=by rcases(b.Mj hi).1 with⟨rfl,_⟩|⟨a,cap,rfl,_⟩<;>rfl
theorem Agq{op:Op}{E:Dc->Option BU}{R:BU->Hp->List Av->Prop}(r:Nat)(h:BJ P op T E H O R)(s:∀v d b,R v d b->∃e size m xs,b[r]?=Ac (.row v e size m xs)):BJ P op T E H O (λv d b=>R v d b/\v.oneCell'=Br):=
 λa w o next Q i j k l p=>h a w o next Q i j k l λv u d b t f g=>by obtain⟨e,size,m,xs,q⟩:=s v d b f;exact p v u d b t ⟨f,g.Za q⟩ g
end
section
variable{v:BU}
def placesOf(P:Ge)(t:Ee):Option (List (Nat×Nat)):=
 match P.underlying t with
 |some (.struct fs)=>fs.toList.mapM λf=>(P.info? f.type).map λi=>(f.offset,i.size)
 |_=>C7
theorem run_places{P:Ge} :∀(l:List Field) (ps:List (Nat×Nat)),(l.mapM λf=>(P.info? f.type).map λi=>(f.offset,i.size))=Ac ps->
  ∀w,(l.mapM λf=>do pure (f.offset,<-Go.sizeOf f.type):Sem (List (Nat×Nat))).run P w= .ok ps w
 | [],ps,h,w=>by simp at h;subst h;simp
 |f::l,ps,h,w=>by
  rw[List.mapM_cons]at h;cases a:P.info? f.type with
  |none=>simp[a]at h
  |some i=>
   cases b:(l.mapM λf=>(P.info? f.type).map λi=>(f.offset,i.size))with
   |none=>simp[a,b]at h
   |some e=>
    simp[a,b]at h;subst h;have d:=run_places l e b w;have c:(Go.sizeOf f.type).run P w= .ok i.size w:=by simp[Go.sizeOf,typeInfo,a]
    rw[List.mapM_cons];simp only[Sem.run_bind,c,Result.andThen_ok,Sem.run_pure,d]
def VR(place:Nat->Option (Nat×Nat))(cells:Array BU):List (Nat×Array BU)->Option (Array BU)
 | []=>Ac cells
 |(i,v)::a=>
  match place i with
  |none=>C7
  |some (off,size)=>
   if v.size≠size||off+v.size>cells.size then C7
   else VR place (v.zipIdx.foldl (λcs (c,j)=>cs.setIfInBounds (off+j) c) cells) a
theorem fill_eq(place:Nat->Option (Nat×Nat)):∀(vs:List (Nat×BU)) (cells:Array BU),Instr.fill place cells vs=VR place cells (vs.map λp=>(p.1,p.2.cells))
 | [],_=>rfl
 |(i,v)::b,cells=>by
  simp only[Instr.fill,Aap,VR];cases place i with
  |none=>rfl
  |some q=>
   obtain⟨off,size⟩:=q;simp only;split;· rfl
   ·exact fill_eq place b _
theorem qS(h:v.oneCell'=Br):v.cells= #[v]:=by cases v<;>simp_all [BU.cells,BU.oneCell']
theorem qR(h:v.oneCell'=Br):v.cells.toList=[v]:=by rw[qS h]
abbrev VC(vs:List (Nat×BU))(vcs:List (Nat×Array BU)):Prop:=vs.map (λp=>(p.1,p.2.cells))=vcs
end
section
variable {P : Ge} {T : Ee} {E : Dc -> Option BU} {H : Hp} {O : List Av}
theorem Ald{t:Ee}{size bytes:Nat}{z:BU}{zs cs:Array BU}{ps:List (Nat×Dc)}{vs:List (Nat×BU)}{places:List (Nat×Nat)}(a:placesOf P t=Ac places)(m:TI P t size bytes z)(e:z.cells=zs)
  {vcs:List (Nat×Array BU)} (d:Yo E ps=Ac vs) (k:VC vs vcs) (c:VR (places[·]?) zs vcs=Ac cs):Aq P (.build t ps.toArray) T E H O (.agg cs):=by
 have i:Instr.fill (places[·]?) zs vs=Ac cs:=by rw[fill_eq,k];exact c
 unfold placesOf at a;split at a;· rename_i g j;refine Aq.build (places:=places.toArray) j m e (λw=>?_) d (by simpa using i);have h:=run_places g.toList places a w;rw[Array.mapM_eq_mapM_toList];show((List.mapM (λf:Field=>(do pure (f.offset,<-Go.sizeOf f.type):Sem (Nat×Nat))) g.toList)>>=λl=>pure l.toArray:Sem (Array (Nat×Nat))).run P w=_;rw[Sem.run_bind,h];simp
 ·cases a
end
def Cq(v:BU)(k:Nat):BU:=match v with
 | .agg cs=>cs.getD k undef
 | .tuple vs=>vs.getD k undef
 |_=>undef
section
variable {P : Ge} {T : Ee} {E : Dc -> Option BU} {H : Hp} {O : List Av} {ρ : Rec} {i : Nat}
theorem Aki{t e:Ee}{len size bytes:Nat}{z:BU}{zs cs:Array BU}{ps:List (Nat×Dc)}{vs:List (Nat×BU)}(r:Nat)(ht:P.underlying t=Ac (.slice e))(p:TI P e size bytes z)(n:z.cells=zs)
  (c:Nat.ble (len*size) 16777216=Br) (h0:Nat.blt 0 (len*size)=Br) (m:Yo E ps=Ac vs) (B:Instr.fill (λi=>Ac (i*size,size)) ((Array.range (len*size)).map (zs[· %zs.size]!)) vs=Ac cs) (f:cs.size=len*size) (hi:O[r]?=Ac .emp):
  BJ P (.buildSlice t len ps.toArray) T E H O (λv q s=>q=H/\s=O.set r (.row (yB ρ i v i) e size len cs.toList)/\yB ρ i v i=v):= .Am λa w o C _ A D=>by
 have u:(ps.toArray.map λ(i,x)=>(i,a.eval x)).toList=vs:=by simpa using Ht A m
 have g:¬len*size>2^24:=by have:=Aba c;omega
 have j:¬len*size=0:=by simp at h0;omega
 refine⟨.slice (Ac ⟨w.heap.size,0,C7⟩) len len,w.alloc (.cells cs e),H,_,?_,Hp.le.refl H,⟨rf,by rw[QM],by rw[QM]⟩,D.set hi (GD.grownBy_alloc w _ _) ?_ (λb y=> .inr (by simp[Av.has,BU.ownBlock]at y;omega))⟩;· simp only[ID,C,Instr.buildSlice,Sem.run_bind,AU ht,Result.andThen_ok,p.sizeOf,if_neg g,if_neg j,p.zeroValue,n,Sem.run_pure,u,B];simp[newRow]
 ·refine⟨by simpa using f, .inr ⟨w.heap.size,len,cs,rfl,Abh _,heap_alloc_new w _,Aad _,?_,f,?_⟩⟩;· have F:=Aba c;have G:len<=len*size:=Afl _ (Nat.pos_of_ne_zero λh=>by subst h;simp at j);simp only[maxLen];omega
  ·rw[Abm];simp[f]
end
section
variable {P : Ge} {w : GD} {H : Hp} {O : List Av} {f : FuncId} {vs : List BU}
section
variable{i:Nat}{r:Av}
theorem SH.back(hi:i<O.length)(h:SH w H (r::O.eraseIdx i)):SH w H (O.set i r):=by
 refine h.pick (λj=>if j=i then 0 else if j<i then j+1 else j) (λj s a=>?_) (λj k d g b=>?_)
 ·rw[Adw]at a;by_cases e:j=i;· subst e;simp[hi]at a;simp[a]
  ·rw[if_neg (λx=>e x.symm)]at a;rw[if_neg e];by_cases c:j<i;· rw[if_pos c,Adg,Adh,if_pos c];exact a
   ·rw[if_neg c];obtain⟨q,rfl⟩:∃q,j=q+1:=⟨j-1,by omega⟩;rw[Adg,Adh,if_neg (by omega)];exact a
 ·split at b<;>split at b<;>(try split at b)<;>(try split at b)<;>omega
theorem Q8(hi:O[i]?=Ac r):O.set i r=O:=by
 apply Agp;intro j;rw[Adw];split;· rename_i e;subst e;have:=(No.1 hi).1;simp[this]at hi⊢;exact hi.symm
 ·rfl
end
end
section
variable {H : Hp} {O : List Av}
section
variable{w:GD}{i:Nat}
theorem Ahy{b:Nat}{r:Av}{o:Obj}(hi:O[i]?=Ac r)(u:r.block=Ac b)(y:H.at_ b=C7)(C:∀w':GD,w'.heap[b]?=Ac o->r.ok w')(h:SH w (H.put b o) (O.eraseIdx i)):SH w H O:=by
 have q:(H.put b o).at_ b=Ac o:=by simp[Hp.put]
 have v:∀c t,H.at_ c=Ac t->c≠b:=λc t d e=>by subst e;rw[y]at d;cases d
 have key:∀j s,O[j]?=Ac s->j≠i->∃k,(O.eraseIdx i)[k]?=Ac s/\k=(if j<i then j else j-1):=λj s a g=>by
  refine⟨_,?_,rf⟩;rw[Adh];by_cases f:j<i;· rw[if_pos f,if_pos f];exact a
  ·rw[if_neg f,if_neg (by omega),show j-1+1=j by omega];exact a
 have l:∀j s c,O[j]?=Ac s->j≠i->s.has c->c≠b/\H.at_ c=C7:=λj s c a g d=>by
  obtain⟨k,m,_⟩:=key j s a g;have f:=h.JC k s c m d;refine⟨λe=>(by subst e;rw[q]at f;cases f),?_⟩;simp only[Hp.put]at f;split at f;· cases f
  ·exact f
 refine⟨λc t d=>h.Ny c t ?_,h.os,h.output,h.tape,λj s a=>?_,λj s c a d=>?_,λj k s x c a n d p=>?_⟩;· simp only[Hp.put];rw[if_neg (v c t d)];exact d
 ·by_cases g:j=i;· subst g;rw[hi]at a;cases a;exact C w (h.Ny b o q)
  ·obtain⟨k,m,_⟩:=key j s a g;exact h.ok k s m
 ·by_cases g:j=i;· subst g;rw[hi]at a;cases a;cases Agf u d;exact y
  ·exact(l j s c a g d).2
 ·by_cases g:j=i
  ·subst g;rw[hi]at a;cases a;cases Agf u d;by_cases m:k=j;· exact m.symm
   ·exact absurd rf (l k x b n m p).1
  ·by_cases m:k=i;· subst m;rw[hi]at n;cases n;cases Agf u p;exact absurd rfl (l j s b a g d).1
   ·obtain⟨D,f,z⟩:=key j s a g;obtain⟨E,B,A⟩:=key k x n m;have:=h.nd D E s x c f B d p;rw[z,A]at this;split at this<;>split at this<;>omega
theorem SH.fM(m:SH w H O){v:BU}{e:Ee}{size n:Nat}{xs:List BU}(hi:O[i]?=Ac (.row v e size n xs)):
  ∃l,H.le l/\SH w l (O.eraseIdx i)/\Sl l v size n xs/\∀w',SH w' l (O.eraseIdx i)->SH w' H O:=by
 have h:=m.ok i _ hi;simp only[Av.ok]at h;rcases h.2 with⟨rfl,rfl⟩|⟨g,cap,cur,rfl,r,x,t,d,q,a⟩;· have:xs=[]:=Abc (by simpa using h.1);subst this;refine⟨H,Hp.le.refl H,m.drop i,Sl.nil H size,λw' c=>?_⟩;have y:=(No.1 hi).1;have o:=(c.G' e size).back y;have p:O.set i (.row (.slice C7 0 0) e size 0 [])=O:=Q8 hi;rwa [p]at o
 ·obtain⟨o,p⟩:=m.LD hi (b:=g) rfl x;refine⟨_,o,p,⟨h.1, .inr ⟨_,_,rfl,t⟩,λj u f=>⟨⟨g,0+j,C7⟩,cur,e,(0,0),by simp only[AO,Addr.add_lit],rfl,by simp[Hp.put],?_⟩⟩,λw' c=>?_⟩
  ·rw[<-a]at f;rw[Aez]at f;split at f;· simpa using f
   ·simp at f
  ·exact Ahy hi rf (m.JC i _ g hi rf) (λz k=>⟨h.1, .inr ⟨g,cap,cur,rf,r,k,t,d,q,a⟩⟩) c
end
end
end Go.GK
namespace Go.GK
open Go.Maps
section
variable{κ β:Type}
def AA{κ β:Type} [DecidableEq κ]:List (κ×β)->κ->Option β
 | [],_=>C7
 |(k,v)::m,x=>if k=x then Ac v else AA m x
def Ik{κ β:Type} [DecidableEq κ]:List (κ×β)->κ->β->List (κ×β)
 | [],_,_=>[]
 |(k,v)::m,x,y=>if k=x then(k,y)::m else(k,v)::Ik m x y
def Bs[DecidableEq κ](m:List (κ×β))(x:κ)(y:β):List (κ×β):=match AA m x with
 |some _=>Ik m x y
 |none=>m++[(x,y)]
end
section
variable {κ β : Type} [DecidableEq κ]
theorem Xp(m:List (κ×β))(x:κ)(y:β):(Ik m x y).length=m.length:=by
 induction m with
 |nil=>rfl
 |cons p m b=>obtain⟨k,v⟩:=p;simp only[Ik];split<;>simp[b]
theorem Xq(m:List (κ×β))(x z:κ)(y:β):AA (Ik m x y) z=if z=x then(AA m x).map (λ_=>y)else AA m z:=by
 induction m with
 |nil=>simp[AA,Ik]
 |cons p m c=>
  obtain⟨k,v⟩:=p;simp only[Ik];by_cases h:k=x
  ·subst h;by_cases a:z=k;· subst a;simp[AA]
   ·have:¬k=z:=λe=>a e.symm;simp[AA,a,this]
  ·rw[if_neg h];simp only[AA];by_cases a:z=x;· subst a;simp[h,c]
   ·by_cases b:k=z;· subst b;simp[a]
    ·simp[b,c,a]
theorem Xr(m:List (κ×β))(x z:κ)(y:β)(h:AA m x=C7):AA (m++[(x,y)]) z=if z=x then Ac y else AA m z:=by
 induction m with
 |nil=>
  by_cases a:z=x;· subst a;simp[AA]
  ·have:¬x=z:=λe=>a e.symm;simp[AA,a,this]
 |cons p m c=>
  obtain⟨k,v⟩:=p;simp only[AA]at h;split at h;· cases h
  ·rename_i d;simp only[Adt,AA];by_cases a:z=x;· subst a;simp[d,c h]
   ·by_cases b:k=z;· subst b;simp[a]
    ·simp[b,c h,a]
theorem HW(m:List (κ×β))(x z:κ)(y:β):AA (Bs m x y) z=if z=x then Ac y else AA m z:=by
 unfold Bs;cases h:AA m x with
 |none=>exact Xr m x z y h
 |some v=>rw[Xq,h];rfl
theorem Kr(m:List (κ×β))(x:κ)(y:β):(Bs m x y).length=if(AA m x).isSome then m.length else m.length+1:=by
 unfold Bs;cases h:AA m x with
 |none=>simp
 |some v=>simp[Xp]
end
section
variable{P:Ge}{a:Ee}
structure NP(P:Ge)(kt:Ee)(κ:Type)where
 val:κ->BU
 lit:κ->Lit
 ok:κ->Prop
 keyed:Keyed P kt
 of:∀k,ok k->keyOf P kt (val k)=Ac (lit k)
 key:∀k,WideAt.IsKeyLit (lit k)
 inj:∀k k',lit k=lit k'->k=k'
structure MElem(P:Ge)(et:Ee)(β:Type)where
 val:β->BU
 Ae:β->DataW Unit
 ok:β->Prop
 of:∀b,ok b->plainElem P et (val b)=Ac (Ae b,[])
 inv:∀v b ps,plainElem P et v=Ac (Ae b,ps)->v=val b
 one:∀b,(val b).oneCell'=Br
theorem uA{n:Int}(h:Dn n):(Lit.int .i64 n).wf=Br:=by simp only[Dn]at h;simp[Lit.wf,Kj.min,Kj.max,Kj.signed,Kj.bits];omega
def mkI(h:P.underlying a=Ac (.int .i64)):NP P a Int where
 val n:= .int .i64 n
 lit n:= .int .i64 n
 ok n:=Dn n
 keyed:=int_keyed h
 of k hk:=keyOf_int_mk h (uA hk)
 key _:=trivial
 inj _ _ h:=by injection h
def mkS(h:P.underlying a=Ac .string):NP P a Au where
 val s:=sv s
 lit s:= .string s
 ok s:=s.length<=Ag
 keyed:=string_keyed h
 of k hk:=by
  have:=Go.WideMaps.keyOf_string_mk (s:=⟨⟨k⟩⟩) h (by show k.length<=maxLen;simp only[Ag,maxLen]at*;omega);exact this
 key _:=trivial
 inj _ _ h:=by injection h
end
section
variable {P : Ge} {T : Ee} {E : Dc -> Option BU} {H : Hp} {O : List Av}
theorem Aq.makeFunc{fn:Fn}{fs cs:List Dc}{vf vc:List BU}(h:MW E fs=Ac vf)(g:MW E cs=Ac vc):Aq P (.makeFunc fn fs.toArray cs.toArray) T E H O (.func fn vf.toArray vc.toArray):= .Am λa w o i _ d _=>by have e:=FV (a:=a) d h;have f:=FV (a:=a) d g;simp[ID,i,Instr.makeFunc,e,f]
theorem Akk{x:Dc}{f:FuncId}{first caps:List BU}{args:List Dc}{vs:List BU}{tys:Array Ee}{R:BU->Hp->List Av->Prop}(d:QF P f)(s:E x=Ac (.func (.func f) first.toArray caps.toArray))(n:MW E args=Ac vs)(ht:O5 P f (first++vs++caps) H O R):BJ P (.call {callee:= .value x,args:=args.toArray,argTypes:=tys}) T E H O R:=λa w o next Q p _ g r k=>by
 have q:(ID a.eval o).run P w= .ok (.enter f (first++vs++caps).toArray) w:=by have:=d.run (first++vs++caps).toArray w;simp[ID,p,resolve,Deferred.ofValue,g x _ s,invoke,FV g n]at this⊢;rw[this]
 unfold J5.wp;rw[q];refine(ht w r).mono ?_;rintro e t ⟨v,h,i,rfl,j,l,m⟩;exact k v t h i j m l
end
end Go.GK
namespace Go.GK
def cBy:Cd UInt8 where
 sz:=1
 BI _ b cs:=cs=[.int .u8 (b.toNat:Nat)]
 len h:=by subst h;rfl
 mono _ h:=h
 one h:=by subst h;intro u hu;simp at hu;subst hu;rfl
theorem Vy{H:Hp} :∀ {l:Au} {xs:List BU},AZ cBy H l xs↔xs=Lib.byteCells l
 | [],xs=>Iff.rfl
 |b::l,xs=>by
  constructor;· rintro⟨c,f,rfl,d,e⟩;rw[show c=[.int .u8 (b.toNat:Nat)]from d,Vy.1 e];rfl
  ·intro h;exact⟨[.int .u8 (b.toNat:Nat)],Lib.byteCells l,h,rfl,Vy.2 rfl⟩
section
variable {P : Ge} {T : Ee} {E : Dc -> Option BU} {H : Hp} {O : List Av}
section
variable{x y:Dc}{e:Ee}{j:TypeInfo}{t:Ee}{b i:Nat}{src dst:Ee}{cs:Array BU}{v:BU}{pt it:Ee}
theorem Aks{Ty:Ee}(i:P.underlying t=Ac (.pointer e))(f:P.info? e=Ac j)(k:E x=Ac (.pointer C7))(l:E y=Ac (.pointer C7)):Aq P (.binOp .eql t x y Ty) T E H O (.bool Br):= .Am λa w o g _ c _=>by
 have h:(binOp .eql t (.pointer C7) (.pointer C7)).run P w= .ok (.bool Br) w:=by
  have h:∀d:Nat,(Op.equalIn (d+1) t (.pointer C7) (.pointer C7)).run P w= .ok Br w:=λd=>by simp[Op.equalIn,AU i,sizeOf,typeInfo,f,sameAddr]
  simp only[binOp];show(do pure (.bool (<-Op.equal t _ _)):Sem BU).run P w=_;unfold Op.equal Op.maxDepth;simp[h 9999]
 simp[ID,g,c x _ k,c y _ l,eqGuard,h]
theorem Alc{Ty:Ee}{a:Addr}(i:P.underlying t=Ac (.pointer e))(f:P.info? e=Ac j)(k:E x=Ac (.pointer (Ac a)))(l:E y=Ac (.pointer C7)):Aq P (.binOp .eql t x y Ty) T E H O (.bool Ap):= .Am λm w o g _ c _=>by
 have h:(binOp .eql t (.pointer (Ac a)) (.pointer C7)).run P w= .ok (.bool Ap) w:=by
  have h:∀d:Nat,(Op.equalIn (d+1) t (.pointer (Ac a)) (.pointer C7)).run P w= .ok Ap w:=λd=>by simp[Op.equalIn,AU i,sizeOf,typeInfo,f,sameAddr]
  simp only[binOp];show(do pure (.bool (<-Op.equal t _ _)):Sem BU).run P w=_;unfold Op.equal Op.maxDepth;simp[h 9999]
 simp[ID,g,c x _ k,c y _ l,eqGuard,h]
theorem Alf{Ty:Ee}{f:Ee}{off:Nat}(l:P.underlying t=Ac (.pointer f))(i:P.info? f=Ac j)(d:E x=Ac (ptr b off))(e:E y=Ac (ptr b off)):Aq P (.binOp .neq t x y Ty) T E H O (.bool Ap):= .Am λm w o k _ c _=>by have h:=Lib.run_neq_ptr_same (P:=P) w (tp:=t) ⟨b,off,C7⟩ l i;simp only[ptr]at d e;simp[ID,k,c x _ d,c y _ e,eqGuard,h]
theorem All(n:P.underlying src=Ac (.pointer t))(g:P.underlying dst=Ac .unsafePointer)(ht:P.info? t=Ac j)(l:j.size≠0)(d:E x=Ac (ptr b 0))(hi:O[i]?=Ac (.Ah b (.cells cs e (0,0))))(h0:0<cs.size):Aq P (.convert src dst x) T E H O (ptr b 0):= .Am λq w o m _ k p=>by have c:=p.ok i _ hi;simp only[Av.ok]at c;have h:=Lib.run_to_unsafe (P:=P) w (src:=src) (dst:=dst) (cells:=cs.size) (e:=e) ⟨b,0,C7⟩ n g ht l (by simp[GD.shape?,c]) h0;simp only[ptr]at d;simp[ID,m,k x _ d,h,ptr]
theorem Alj{u:Ee}(n:P.underlying src=Ac .unsafePointer)(g:P.underlying dst=Ac (.pointer u))(p:P.info? u=Ac j)(d:E x=Ac (ptr b 0))(hi:O[i]?=Ac (.Ah b (.cells cs e (0,0))))(l:liesAt P P.depth e (cs.size/P.cellsOf e) 0 u 1=Br):Aq P (.convert src dst x) T E H O (ptr b 0):= .Am λr w o m _ k q=>by have c:=q.ok i _ hi;simp only[Av.ok]at c;have h:=Lib.run_from_unsafe (P:=P) w (src:=src) (dst:=dst) (cells:=cs.size) (e:=e) ⟨b,0,C7⟩ n g p (by simp[GD.shape?,c]) l;simp only[ptr]at d;simp[ID,m,k x _ d,h,ptr]
theorem Alk{f:FuncId}{fn:Func}{tys:Array Ee}(m:P.funcs[f]?=Ac fn)(b:(fn.name== "runtime.NumGoroutine")=Ap)(k:fn.body.isNone=Br)(n:Extern.findNext fn=C7)(e:Extern.find fn=Ac Extern.AbiNoEscape.same)(q:E x=Ac v):
  Aq P (.call {callee:= .value (.func f),args:= #[x],argTypes:=tys}) T E H O v:= .Am λj w o p _ l r=>by
 have h:=run_callFunc_extern m b k n e #[v] w;rw[Lib.run_noEscape]at h;have g:j.eval (.func f)= .func (.func f) #[] #[]:=rfl;simp[ID,p,resolve,Deferred.ofValue,g,invoke,l x _ q,h]
theorem Alm{p:Option Addr}(f:E x=Ac (.pointer p))(g:E y=Ac (.int .i64 0)):Aq P (.call {callee:= .builtin .unsafeString,args:= #[x,y],argTypes:= #[pt,it]}) T E H O (sv []):= .Am λi w o e _ c j=>by have h:=Lib.run_unsafeString_none (P:=P) w pt it o.type p;simp[ID,e,resolve,invoke,builtin,c x _ f,c y _ g,h];rfl
theorem BJ.unsafeString{l:Au}{xs:List BU}(M:P.underlying pt=Ac (.pointer e))(G:P.cellsOf e=1)(A:E x=Ac (AO v 0))(N:E y=Ac (.int .i64 (l.length:Nat)))(hi:O[i]?=Ac (.row v e 1 l.length xs))(D:AZ cBy H l xs)(h0:l≠ []):
  BJ P (.call {callee:= .builtin .unsafeString,args:= #[x,y],argTypes:= #[pt,it]}) T E H O (λu B C=>B=H/\C=O.set i .emp/\u=sv l):= .Am λR w o L _ t z=>by
 have a:=z.ok i _ hi;simp only[Av.ok]at a;rcases a.2 with⟨_,Q⟩|⟨g,cap,cur,rfl,_,I,K,m,n,r⟩;· exact absurd (Aae.1 Q) h0
 ·have s:=Vy.1 D;have h:=Lib.run_unsafeString_row (P:=P) w pt it o.type e M G g cur.size (by simp[GD.shape?,I]) l h0 (by simp at n;omega) (by simp only[maxLen]at m;omega) (λj x J=>a.cells (g:=g) rfl j _ (by rw[s];simp[Lib.byteCells,J]));refine⟨sv l,w.freeze ⟨g,0,C7⟩ l.length,H,O.set i .emp,?_,Hp.le.refl H,⟨rfl,rfl,rfl⟩,z.set hi (r':= .emp) ?_ trivial (λb F=>by cases F)⟩;· simp only[AO,Addr.add]at A;simp[ID,L,resolve,invoke,builtin,t x _ A,t y _ N,h];rfl
  ·have p:¬l.length=0:=λh=>h0 (Aae.1 h);unfold GD.freeze;rw[if_neg p];refine⟨rfl,rfl,rfl,by simp,λk S q=>?_⟩;have:¬g=k:=λe=>q (by subst e;rfl);simp[Array.getElem?_modify,this]
end
end
end Go.GK
namespace Go.GK
open Go.Proofs
def HE(P:Ge)(H:Hp):Prop:= ∀w O,SH w H O->Lib.TabIs P w "internal/strconv.uint64pow10" .u64 Lib.pow10Tab
theorem HE.mono{P:Ge}{H a:Hp}(h:HE P H)(b:H.le a):HE P a:=λw O c=>h w O (c.weaken b)
theorem OH(w:GD)(k:Nat)(os:Array Obj):w.grownBy (Go.Sort.grow (w.drewN k) os) C7:=
 ⟨rfl,rfl,rfl,by simp[Go.Sort.grow,GD.drewN],λb a _=>by simp only[Go.Sort.grow,GD.drewN];rw[Array.getElem?_append_left a]⟩
section
variable {P : Ge} {H : Hp} {O : List Av}
theorem iJ.itoa{f:FuncId}{n:Int}(j:∀(n:Int), -9223372036854775808<=n->n<=9223372036854775807->∀(w:GD),Lib.TabIs P w "internal/strconv.uint64pow10" .u64 Lib.pow10Tab->Calls P f #[.int .i64 n] w λe w'=>e= .returned (.string ⟨(Lib.itoa n).toArray⟩)/\∃k os,w'=Go.Sort.grow (w.drewN k) os)
  (i:HE P H) (c:Dn n):iJ P f [.int .i64 n] H O (sv (Lib.itoa n)):=λw d=>
 (j n c.1 c.2 w (i w O d)).mono λe w' ⟨g,k,os,h⟩=>⟨g,by subst h;exact d.grown (OH w k os)⟩
end
end Go.GK
namespace Go.GK
def ofP(lo hi:Nat)(x:Nat):Bool:=decide (lo<=x)&&decide (x<=hi)
def ZQ(p:Nat->Bool)(k:Nat):List Nat:=(List.range k).filter p
def mW(p:Nat->Bool)(k:Nat):Nat:=(ZQ p k).length
def lst(p:Nat->Bool):Nat:=((List.range 256).find? p).getD 0
def anyS(p:Nat->Bool):Bool:=((List.range 256).find? p).isSome
def setLast:List (Nat×Nat)->Nat->List (Nat×Nat)
 | [],_=>[]
 | [a],k=>[(a.1,k)]
 |a::b::l,k=>a::setLast (b::l) k
def eP(p:Nat->Bool):Nat->List (Nat×Nat)
 |0=>[]
 |k+1=>if p k then(if 0<k/\p (k-1)=Br then setLast (eP p k) k else eP p k++[(k,k)])else eP p k
def A5(p:Nat->Bool)(b:Int):Bool:=decide (0<=b)&&decide (b<256)&&p b.toNat
def uO(p:Nat->Bool):Nat->Nat->Nat
 |0,y=>y
 |f+1,y=>if A5 p ((y:Int)+1)then uO p f (y+1)else y
def re(p:Nat->Bool)(y:Nat):Nat:=uO p (256-y) y
def rrTo(p:Nat->Bool)(k:Nat):List (Nat×Nat):=((List.range k).filter λx=>p x&& !A5 p ((x:Int)-1)).map λx=>(x,re p x)
attribute [irreducible] mW lst anyS ZQ eP rrTo A5 re
abbrev St:=Nat->Bool
def nth(l:List St)(i:Nat):St:=l.getD i (λ_=>Ap)
def Qt(l:List St)(x y:Nat):Bool:=l.all λp=>p x==p y
def cls(l:List St)(x y:Nat):Bool:=decide (x<=y)&&Qt l x y
def Y_(l:List St):Nat->List St×St
 |0=>([],λ_=>Ap)
 |k+1=>if(Y_ l k).2 k then Y_ l k else((Y_ l k).1++[cls l k],λy=>(Y_ l k).2 y||cls l k y)
def ne(p:St):Bool:= !dO p (λ_=>Ap)
def vZ(p s:St):St:=λx=>p x&&s x
def Xz(p s:St):St:=λx=>p x&&(λy=> !s y) x
def Yl(a b:St)(j:Nat):St:=if j=0 then a else b
def two(p s:St)(j:Nat):List St:=([vZ p s,Xz p s].take j).filter ne
def Zh(ps:List St)(s:St):List St:=ps.flatMap λp=>two p s 2
def oe(l:List St)(i:Nat):List St:=(l.take i).foldl Zh [ofP 0 255]
def nx(l:List St)(i m j:Nat):List St:=Zh ((oe l i).take m) (nth l i)++two (nth (oe l i) m) (nth l i) j
def cn(p:St):Nat:=mW p 256
def tot(ps:List St):Nat:=(ps.map cn).sum
def Pk(b:Nat)(s:List St×St)(p:St):List St×St:=if p b then(s.1++[p],λy=>s.2 y||p y)else s
def Rs(ps:List St):Nat->List St×St
 |0=>([],λ_=>Ap)
 |b+1=>if(Rs ps b).2 b then Rs ps b else ps.foldl (Pk b) (Rs ps b)
def uX(ps:List St)(b m:Nat):List St×St:=(ps.take m).foldl (Pk b) (Rs ps b)
theorem ne_eq(p:St):(!dO p (λ_=>Ap))=ne p:=rfl
attribute [irreducible] Qt Y_ oe nx Rs uX nth cls ne vZ Xz
def szs(l:List (Nat×Nat)):Nat:=(l.map λa=>a.2+1-a.1).sum
structure Good(l ps:List St):Prop where
 cls:∀p∈ps,∀x y,x<256->y<256->p x=Br->(p y=Br↔Qt l x y=Br)
 one:∀x,x<256->∃A p B,ps=A++p::B/\p x=Br/\(∀q∈A,q x=Ap)/\∀q∈B,q x=Ap
def pr(l:List (Nat×Nat))(i:Nat):Nat×Nat:=l.getD i (0,0)
def rgU(l:List (Nat×Nat))(i:Nat)(z:Nat):Bool:=(l.take i).any λa=>ofP a.1 a.2 z
def rgN(l:List (Nat×Nat))(i:Nat):Nat:=szs (l.take i)
def iG(l:List St)(x y i:Nat):Bool:=Qt (l.take i) x y
attribute [irreducible] pr rgU rgN iG
def wB(E:Dc->Option BU)(lo hi:Option Dc)(l h:Int)(n:Nat):Prop:=(lo=C7/\l=0\/∃p k,lo=Ac p/\E p=Ac (.int k l))/\(hi=C7/\h=(n:Int)\/∃p k,hi=Ac p/\E p=Ac (.int k h))
section
variable {P : Ge} {T : Ee} {E : Dc -> Option BU} {H : Hp} {O : List Av} {α : Type} {c : Cd α}
section
variable{e t:Ee}{size bytes:Nat}{z:BU}{n cap:Nat}{h:Int}{xs:List BU}
theorem Ir(a:Addr):a.add 0=a:=by cases a;simp[Addr.add]
theorem P7(ht:P.underlying t=Ac (.slice e)):P.underlying t=Ac (.slice (P.elem t)):=by simp[Ge.elem,ht]
theorem P8(ht:P.underlying t=Ac (.slice e)):P.elem t=e:=by simp[Ge.elem,ht]
theorem YZ{a:Option Addr}{lo hi:Option Dc}{l:Int}{ac:Act}(ht:P.underlying t=Ac (.slice e))(s:TI P e size bytes z)(m:wB E lo hi l h n)(d:∀x v,E x=Ac v->ac.eval x=v)
  (h0:0<=l) (h1:l<=h) (h2:h<=(n:Nat)) (h3:n<=cap) (w:GD):(Instr.sliceAt t (.slice a n cap) (lo.map ac.eval) (hi.map ac.eval) C7).run P w= .ok (sliced a l.toNat h.toNat cap size) w:=by
 have b:=P7 ht;have f:(Go.sizeOf (P.elem t)).run P w= .ok size w:=by rw[P8 ht];exact s.sizeOf
 rw[run_sliceAt_slice (h:=b)];obtain⟨r,o⟩:=m;rcases r with⟨rfl,rfl⟩|⟨p,k,rfl,i⟩<;>rcases o with⟨rfl,rfl⟩|⟨q,u,rfl,j⟩;· simp only[Aln];rw[run_slice_all (t:=t) (a:=a) (len:=n) (cap:=cap) (ht:=b),f];simp[Result.andThen]
 ·simp only[Aln,Adk,d q _ j];rw[run_slice_h (t:=t) (a:=a) (len:=n) (cap:=cap) (ht:=b) (h0:=h1) (h2:=by omega),f];simp[Result.andThen]
 ·simp only[Aln,Adk,d p _ i];rw[run_slice_l (t:=t) (a:=a) (len:=n) (cap:=cap) (ht:=b) (h0:=h0) (h1:=h1),f];simp[Result.andThen]
 ·simp only[Adk,d p _ i,d q _ j];rw[run_slice_lh (t:=t) (a:=a) (len:=n) (cap:=cap) (ht:=b) (h0:=h0) (h1:=h1) (h2:=by omega),f];simp[Result.andThen]
theorem Pv{w:GD}{base:Nat}{g h:Nat}(j:h<=n)
  (p:w.ownsRow base e size (.slice (Ac ⟨g,0,C7⟩) n cap) n xs):w.ownsRow base e size (.slice (Ac ⟨g,0,C7⟩) h cap) h (xs.take (h*size)):=by
 obtain⟨l,m⟩:=p;rcases m with⟨k,_⟩|⟨r,i,cur,q,o,d,s,b,f,a⟩;· cases k
 ·cases q;refine⟨by rw[Aas,l];exact Adl (Abj _ j), .inr ⟨g,cap,cur,rfl,o,d,by omega,b,f,?_⟩⟩;rw[<-a,Ahi,Adl (Abj _ j)]
theorem Akj{x y:Dc}{v:BU}{l:List α}{k:Kj}{i:Nat}(ht:P.underlying t=Ac (.slice e))(F:TI P e c.sz bytes z)(D:E x=Ac v)(N:E y=Ac (.int k h))
  (hi:O[i]?=Ac (.row v e c.sz l.length xs)) (f:0<=h/\h<=(l.length:Nat)):
  BJ P (.slice t x C7 (Ac y) C7) T E H O (λv' G I=>G=H/\I=O.set i (.row v' e c.sz h.toNat (xs.take (h.toNat*c.sz)))):= .Am λac w o C _ p u=>by
 have d:=u.ok i _ hi;simp only[Av.ok]at d;have B:wB E C7 (Ac y) 0 h l.length:=⟨.inl ⟨rfl,rfl⟩, .inr ⟨y,k,rfl,N⟩⟩;rcases d.2 with⟨rfl,J⟩|⟨g,cap,cur,rfl,_,Q,r,K,L,s⟩
 ·have A:h=0:=by omega
  subst A;have n:=YZ (ac:=ac) (a:=C7) (cap:=0) ht F B p (Abn 0) f.1 f.2 (by omega) w;rw[J]at n;refine⟨.slice C7 0 0,w,H,_,?_,Hp.le.refl H,⟨rfl,rfl⟩,u.set hi (w':=w) (r':= .row (.slice C7 0 0) e c.sz 0 (xs.take (0*c.sz))) ⟨rfl,rfl,rfl,Aad _,λ_ _ _=>rfl⟩ ?_ ?_⟩
  ·have m:Sem.run P (Instr.sliceAt t (.slice C7 0 0) C7 (Ac (ac.eval y)) C7) w= .ok (.slice C7 0 0) w:=by simpa [sliced]using n
   simp[ID,C,p x _ D,m,Result.andThen]
  ·simpa [Av.ok]using GD.ownsRow_nil w _ e c.sz
  ·intro b f;cases f
 ·have n:=YZ (ac:=ac) (a:=Ac ⟨g,0,C7⟩) (cap:=cap) ht F B p (Abn 0) f.1 f.2 r w;have M:sliced (Ac ⟨g,0,C7⟩) (0:Int).toNat h.toNat cap c.sz= .slice (Ac ⟨g,0,C7⟩) h.toNat cap:=by
   simp[sliced,Ir]
  rw[M]at n;refine⟨_,w,H,_,?_,Hp.le.refl H,⟨rfl,rfl⟩,u.set hi (w':=w) (r':= .row (.slice (Ac ⟨g,0,C7⟩) h.toNat cap) e c.sz h.toNat (xs.take (h.toNat*c.sz))) ⟨rfl,rfl,rfl,Aad _,λ_ _ _=>rfl⟩ (Pv (by omega) d) ?_⟩
  ·have m:Sem.run P (Instr.sliceAt t (.slice (Ac ⟨g,0,C7⟩) l.length cap) C7 (Ac (ac.eval y)) C7) w= .ok (.slice (Ac ⟨g,0,C7⟩) h.toNat cap) w:=by simpa using n
   simp[ID,C,p x _ D,m,Result.andThen]
  ·intro b f;exact .inl f
end
end
section
variable {α : Type}
abbrev Fam(α:Type):=List (BU×List α×List BU)
structure FamOk(c:Cd α)(H:Hp)(D:List (List α))(F:Fam α):Prop where
 Ae:F.map (·.2.1)=D
 lay:∀f∈F,AZ c H f.2.1 f.2.2
 one:∀f∈F,f.1.oneCell'=Br
variable {c : Cd α} {H H' : Hp} {D : List (List α)} {F : Fam α}
variable {w : GD} {A B R : List Av} {e : Ee} {sz i : Nat} {f f' : BU × List α × List BU}
end
section
variable {w : GD} {H : Hp} {A B R : List Av}
theorem Ahm(h:SH w H (A++(B++R))):SH w H (B++(A++R)):=by
 refine h.pick (λj=>if j<B.length then A.length+j else if j<B.length+A.length then j-B.length else j) (λj s a=>?_) (λj k e f c=>?_)
 ·by_cases b:j<B.length;· rw[if_pos b];rw[Aaa b]at a;rw[Aab (by omega),Ade,Aaa b];exact a
  ·rw[if_neg b];rw[Aab (by omega)]at a;by_cases d:j<B.length+A.length;· rw[if_pos d];rw[Aaa (by omega)]at a⊢;exact a
   ·rw[if_neg d];rw[Aab (by omega)]at a;rw[Aab (by omega),Aab (by omega)];rw[show j-A.length-B.length=j-B.length-A.length by omega];exact a
 ·split at c<;>split at c<;>(try split at c)<;>(try split at c)<;>omega
end
section
variable {P : Ge} {T : Ee} {E : Dc -> Option BU} {H : Hp} {O : List Av} {x y : Dc} {Tx Ty : Ee}
section
variable{k:Kj}{a:BitVec 64}{e:Int}
theorem Aq.NG(b:E x=Ac (KP a))(c:E y=Ac (.int k e))(h0:0<=e):Aq P (.binOp .shl Tx x y Ty) T E H O (KP (a<<<e.toNat)):=
 Aiu (n:=e.toNat) b (by rw[c,Aaz h0])
theorem Aq.Tt(b:E x=Ac (KP a))(c:E y=Ac (.int k e))(h0:0<=e):Aq P (.binOp .shr Tx x y Ty) T E H O (KP (a>>>e.toNat)):=
 Ait (n:=e.toNat) b (by rw[c,Aaz h0])
end
end
end Go.GK
namespace Go.GK
open Go.RowKit Go.Deep
section
variable {H : Type} {enc : Ee × BU -> H} {P : Ge} {w : GD} {base : Nat} {spare : Nat -> Bool} {held : Bool} {α β : Type}
theorem Wt{c:Cd α}{a:Hp} :∀ {l:List (α×List BU)},(∀x∈l,c.BI a x.1 x.2)->AZ c a (l.map (·.1)) (l.flatMap (·.2))
 | [],_=>rfl
 |x::l,h=>⟨x.2,l.flatMap (·.2),rfl,h x (by simp),Wt λy b=>h y (by simp[b])⟩
theorem Ks{sz:Nat} :∀ {l:List (α×List BU)},(∀x∈l,x.2.length=sz)->(l.flatMap (·.2)).length=l.length*sz
 | [],_=>by simp
 |x::l,h=>by rw[Aem,Pd,h x (by simp),Ks λy b=>h y (by simp[b]),Aav,Adm];omega
theorem OM{sz:Nat} :∀ {l:List (α×List BU)} (_:∀x∈l,x.2.length=sz) (i j:Nat) (x:α×List BU),l[i]?=Ac x->j<sz->(l.flatMap (·.2))[i*sz+j]?=x.2[j]?
 | [],_,i,j,x,h,_=>by simp at h
 |y::l,a,0,j,x,h,c=>by simp at h;subst h;rw[Aem,Aet,Abi,Aaa (by rw[a y (by simp)];exact c)]
 |y::l,a,i+1,j,x,h,c=>by rw[Aem,Aab (by rw[a y (by simp),Adm];omega),a y (by simp)];rw[show(i+1)*sz+j-sz=i*sz+j by rw[Adm];omega];exact OM (λz d=>a z (by simp[d])) i j x (by simpa using h) c
end
section
variable {H : Type} {enc : Ee × BU -> H} {P : Ge} {w : GD} {base : Nat} {spare : Nat -> Bool} {held : Bool}
theorem HE.of{W:GD}{g:Nat}(c:P.globalNamed "internal/strconv.uint64pow10" =Ac g)(h:Lib.TabIs P W "internal/strconv.uint64pow10" .u64 Lib.pow10Tab):HE P (Hp.of W):=λw O f=>by
 have d:=f.below;have b:g<W.heap.size:=by
  unfold Lib.TabIs GD.var? at h;rw[c]at h;simp only[Option.bind_some]at h;split at h;· rename_i e;exact(Acy.1 e).1
  ·cases h
 exact Go.var?_below d c b h
end
end Go.GK
namespace Go.Proofs.YtbeogcbmdbnkiaaGreatDoor
open Go.GK
theorem follows:Tryz.prog.follows .mixedOrders=Br:=by kernel_rfl
theorem uH:TI Tryz.prog 338 1 8 (.pointer C7):=TI.of (by kernel_rfl)
theorem qG:QF Tryz.prog 351:=⟨Tryz.f351,Tryz.func351,by kernel_rfl,rfl⟩
theorem LM:iN Tryz.prog 340 0 0 338:=iN.of (k:=0) (by kernel_rfl)
variable {H : Hp} {O : List Av}
section
variable{B:Nat}{v:BU}
theorem vF:∃j,Tryz.prog.info? 340=Ac j/\j.size≠0:=by
 have h:(Tryz.prog.info? 340).map (λj=>j.size)=Ac 2:=by kernel_rfl
 cases hj:Tryz.prog.info? 340 with
 |none=>rw[hj]at h;cases h
 |some j=>rw[hj]at h;simp at h;exact⟨j,rfl,by omega⟩
theorem bM:O5 Tryz.prog 351 [ptr B 0] H (.Ah B (.cells #[.pointer C7,v] 340 (0,0))::O) (λr H' O'=> .tuple #[]=r/\ .Ah B (.cells #[ptr B 0,v] 340 (0,0))::O=O'):=by
 obtain⟨j,hj,hj0⟩:=vF
 intro w hs
 refine kF Tryz.func351 rf rf rf ?_ hs
 clear hs w
 refine Wp.seq ?_
 refine Wp.region ?_
 refine ES.op (Aq.move rf) rf ?_
 refine ES.op (Aq.nilCheck rf) rf ?_
 refine ES.op (Ahf (o':=0) LM rf rf) rf ?_
 refine ES.op (Agv (i:=0) (v:= .pointer C7) Tryz.underlying338 rf rf rf rf) rf ?_
 refine ES.op (Aks Tryz.underlying338 hj rf rf) rf ?_
 refine ES.nil ?_
 refine Aic ?_
 refine Akc rf ?_
 refine Wp.region ?_
 refine ES.op (Aq.move rf) rf ?_
 refine ES.op (Aq.move rf) rf ?_
 refine ES.op (All (i:=0) Tryz.underlying338 Tryz.underlying358 hj hj0 rf rf (Aba rf)) rf ?_
 refine ES.op (Alk Tryz.func360 (by kernel_rfl) (by kernel_rfl) (by kernel_rfl) (by kernel_rfl) rf) rf ?_
 refine ES.op (Alj (i:=0) Tryz.underlying358 Tryz.underlying338 hj rf rf (by kernel_rfl)) rf ?_
 refine ES.op (Aq.nilCheck rf) rf ?_
 refine ES.op (Ahf (o':=0) LM rf rf) rf ?_
 refine ES.nU (i:=0) rf rf rf uH rf (Aba rf) ?_
 refine ES.nil ?_
 exact Ajn rf (λw hs=>⟨_,_,_,rf,Hp.le.refl _,hs,rf,rf⟩)
theorem XS:O5 Tryz.prog 351 [ptr B 0] H (.Ah B (.cells #[ptr B 0,v] 340 (0,0))::O) (λr H' O'=> .tuple #[]=r/\ .Ah B (.cells #[ptr B 0,v] 340 (0,0))::O=O'):=by
 obtain⟨j,hj,hj0⟩:=vF
 intro w hs
 refine kF Tryz.func351 rf rf rf ?_ hs
 clear hs w
 refine Wp.seq ?_
 refine Wp.region ?_
 refine ES.op (Aq.move rf) rf ?_
 refine ES.op (Aq.nilCheck rf) rf ?_
 refine ES.op (Ahf (o':=0) LM rf rf) rf ?_
 refine ES.op (Agv (i:=0) (v:=ptr B 0) Tryz.underlying338 rf rf rf rf) rf ?_
 refine ES.op (Alc Tryz.underlying338 hj rf rf) rf ?_
 refine ES.nil ?_
 refine Aic ?_
 refine Aji rf ?_
 refine Wp.seq ?_
 refine Wp.region ?_
 refine ES.op (Aq.move rf) rf ?_
 refine ES.op (Aq.nilCheck rf) rf ?_
 refine ES.op (Ahf (o':=0) LM rf rf) rf ?_
 refine ES.op (Agv (i:=0) (v:=ptr B 0) Tryz.underlying338 rf rf rf rf) rf ?_
 refine ES.op (Aq.move rf) rf ?_
 refine ES.op (Alf Tryz.underlying338 hj rf rf) rf ?_
 refine ES.nil ?_
 refine Aic ?_
 refine Aji rf ?_
 refine Wp.skip ?_
 exact Ajn rf (λw hs=>⟨_,_,_,rf,Hp.le.refl _,hs,rf,rf⟩)
theorem bldC{a:BU}(ha:a= .pointer C7\/a=ptr B 0):O5 Tryz.prog 351 [ptr B 0] H (.Ah B (.cells #[a,v] 340 (0,0))::O) (λr H' O'=> .tuple #[]=r/\ .Ah B (.cells #[ptr B 0,v] 340 (0,0))::O=O'):=by
 rcases ha with rfl|rfl
 ·exact bM
 ·exact XS
end
end Go.Proofs.YtbeogcbmdbnkiaaGreatDoor
namespace Go.Proofs
open Go.Shelf
def Aim:Go.Shelf.Ren:=⟨λ|171=>340|243=>352|246=>361|283=>356|284=>357|285=>358|286=>359|129=>222|317=>363|318=>364|319=>365|320=>366|337=>367|338=>368|n=>n,λ|3=>3|9=>9|2=>2|4=>4|171=>354|0=>0|53=>257|37=>288|5=>5|173=>356|212=>364|51=>255|20=>20|213=>365|46=>211|232=>366|233=>367|n=>n,λ|17=>0|18=>1|19=>2|n=>n⟩
theorem Ail:Go.Proofs.LaysM.n171 Tryz.prog Aim:= {
 mixed:=by kernel_rfl
 f129:=Tryz.func222.trans (congrArg Ac (by kernel_rfl))
 f171:=Tryz.func340.trans (congrArg Ac (by kernel_rfl))
 f243:=Tryz.func352.trans (congrArg Ac (by kernel_rfl))
 f246:=Tryz.func361.trans (congrArg Ac (by kernel_rfl))
 f283:=Tryz.func356.trans (congrArg Ac (by kernel_rfl))
 f284:=Tryz.func357.trans (congrArg Ac (by kernel_rfl))
 f285:=Tryz.func358.trans (congrArg Ac (by kernel_rfl))
 f286:=Tryz.func359.trans (congrArg Ac (by kernel_rfl))
 f317:=Tryz.func363.trans (congrArg Ac (by kernel_rfl))
 f318:=Tryz.func364.trans (congrArg Ac (by kernel_rfl))
 f319:=Tryz.func365.trans (congrArg Ac (by kernel_rfl))
 f320:=Tryz.func366.trans (congrArg Ac (by kernel_rfl))
 f337:=Tryz.func367.trans (congrArg Ac (by kernel_rfl))
 f338:=Tryz.func368.trans (congrArg Ac (by kernel_rfl))
 t0:=Tryz.underlying0
 a0:=Tryz.isAgg0
 z0:=Tryz.sizeOf0
 v0:=Tryz.zeroValue0
 t2:=Tryz.underlying2
 a2:=Tryz.isAgg2
 z2:=Tryz.sizeOf2
 v2:=Tryz.zeroValue2
 t3:=Tryz.underlying3
 a3:=Tryz.isAgg3
 z3:=Tryz.sizeOf3
 v3:=Tryz.zeroValue3
 t4:=Tryz.underlying4
 a4:=Tryz.isAgg4
 z4:=Tryz.sizeOf4
 v4:=Tryz.zeroValue4
 t5:=Tryz.underlying5
 a5:=Tryz.isAgg5
 z5:=Tryz.sizeOf5
 v5:=Tryz.zeroValue5
 t9:=Tryz.underlying9
 a9:=Tryz.isAgg9
 z9:=Tryz.sizeOf9
 v9:=Tryz.zeroValue9
 t20:=Tryz.underlying20
 a20:=Tryz.isAgg20
 z20:=Tryz.sizeOf20
 v20:=Tryz.zeroValue20
 t37:=Tryz.underlying288
 a37:=Tryz.isAgg288
 z37:=Tryz.sizeOf288
 v37:=Tryz.zeroValue288
 t46:=Tryz.underlying211
 a46:=Tryz.isAgg211
 z46:=Tryz.sizeOf211
 v46:=Tryz.zeroValue211
 t51:=Tryz.underlying255
 a51:=Tryz.isAgg255
 z51:=Tryz.sizeOf255
 v51:=Tryz.zeroValue255
 t53:=Tryz.underlying257
 a53:=Tryz.isAgg257
 z53:=Tryz.sizeOf257
 v53:=Tryz.zeroValue257
 t171:=Tryz.underlying354
 a171:=Tryz.isAgg354
 z171:=Tryz.sizeOf354
 v171:=Tryz.zeroValue354
 t173:=Tryz.underlying356
 a173:=Tryz.isAgg356
 z173:=Tryz.sizeOf356
 v173:=Tryz.zeroValue356
 t212:=Tryz.underlying364
 a212:=Tryz.isAgg364
 z212:=Tryz.sizeOf364
 v212:=Tryz.zeroValue364
 t213:=Tryz.underlying365
 a213:=Tryz.isAgg365
 z213:=Tryz.sizeOf365
 t232:=Tryz.underlying366
 a232:=Tryz.isAgg366
 z232:=Tryz.sizeOf366
 v232:=Tryz.zeroValue366
 t233:=Tryz.underlying367
 a233:=Tryz.isAgg367
 z233:=Tryz.sizeOf367
 v233:=Tryz.zeroValue367
 g17:=by kernel_rfl
 g18:=by kernel_rfl
 g19:=by kernel_rfl
 i0:=by kernel_rfl
 i2:=by kernel_rfl
 i3:=by kernel_rfl
 i4:=by kernel_rfl
 i5:=by kernel_rfl
 i9:=by kernel_rfl
 i20:=by kernel_rfl
 i37:=by kernel_rfl
 i46:=by kernel_rfl
 i51:=by kernel_rfl
 i53:=by kernel_rfl
 i171:=by kernel_rfl
 i173:=by kernel_rfl
 i212:=by kernel_rfl
 i232:=by kernel_rfl
 i233:=by kernel_rfl
 m17:=by kernel_rfl
 m18:=by kernel_rfl
 m19:=by kernel_rfl}
open Go.RowKit Go.Sort Go.Lib in
theorem Tryz.strconv_Itoa(n:Int)(h0: -9223372036854775808<=n)(h1:n<=9223372036854775807)(w:GD)(htab:Lib.TabIs Tryz.prog w "internal/strconv.uint64pow10" .u64 Lib.pow10Tab):
 Calls Tryz.prog 340 #[.int .i64 n] w λe w'=>e= .returned (.string ⟨(Lib.itoa n).toArray⟩)/\∃k os,w'=grow (w.drewN k) os:=Any.strconv_Itoa Ail n h0 h1 w htab
def Ain:Go.Shelf.Ren:=⟨λ|176=>321|249=>338|288=>350|283=>356|284=>357|285=>358|286=>359|129=>222|317=>363|318=>364|319=>365|320=>366|337=>367|338=>368|n=>n,λ|37=>288|2=>2|3=>3|53=>257|4=>4|9=>9|171=>354|0=>0|173=>356|212=>364|51=>255|5=>5|20=>20|213=>365|46=>211|232=>366|233=>367|n=>n,λ|17=>0|18=>1|19=>2|n=>n⟩
theorem Tryz.Z4:Go.Proofs.LaysM.n176 Tryz.prog Ain:= {
 mixed:=by kernel_rfl
 f129:=Tryz.func222.trans (congrArg Ac (by kernel_rfl))
 f176:=Tryz.func321.trans (congrArg Ac (by kernel_rfl))
 f249:=Tryz.func338.trans (congrArg Ac (by kernel_rfl))
 f283:=Tryz.func356.trans (congrArg Ac (by kernel_rfl))
 f284:=Tryz.func357.trans (congrArg Ac (by kernel_rfl))
 f285:=Tryz.func358.trans (congrArg Ac (by kernel_rfl))
 f286:=Tryz.func359.trans (congrArg Ac (by kernel_rfl))
 f288:=Tryz.func350.trans (congrArg Ac (by kernel_rfl))
 f317:=Tryz.func363.trans (congrArg Ac (by kernel_rfl))
 f318:=Tryz.func364.trans (congrArg Ac (by kernel_rfl))
 f319:=Tryz.func365.trans (congrArg Ac (by kernel_rfl))
 f320:=Tryz.func366.trans (congrArg Ac (by kernel_rfl))
 f337:=Tryz.func367.trans (congrArg Ac (by kernel_rfl))
 f338:=Tryz.func368.trans (congrArg Ac (by kernel_rfl))
 t0:=Tryz.underlying0
 a0:=Tryz.isAgg0
 z0:=Tryz.sizeOf0
 v0:=Tryz.zeroValue0
 t2:=Tryz.underlying2
 a2:=Tryz.isAgg2
 z2:=Tryz.sizeOf2
 v2:=Tryz.zeroValue2
 t3:=Tryz.underlying3
 a3:=Tryz.isAgg3
 z3:=Tryz.sizeOf3
 v3:=Tryz.zeroValue3
 t4:=Tryz.underlying4
 a4:=Tryz.isAgg4
 z4:=Tryz.sizeOf4
 v4:=Tryz.zeroValue4
 t5:=Tryz.underlying5
 a5:=Tryz.isAgg5
 z5:=Tryz.sizeOf5
 v5:=Tryz.zeroValue5
 t9:=Tryz.underlying9
 a9:=Tryz.isAgg9
 z9:=Tryz.sizeOf9
 v9:=Tryz.zeroValue9
 t20:=Tryz.underlying20
 a20:=Tryz.isAgg20
 z20:=Tryz.sizeOf20
 v20:=Tryz.zeroValue20
 t37:=Tryz.underlying288
 a37:=Tryz.isAgg288
 z37:=Tryz.sizeOf288
 v37:=Tryz.zeroValue288
 t46:=Tryz.underlying211
 a46:=Tryz.isAgg211
 z46:=Tryz.sizeOf211
 v46:=Tryz.zeroValue211
 t51:=Tryz.underlying255
 a51:=Tryz.isAgg255
 z51:=Tryz.sizeOf255
 v51:=Tryz.zeroValue255
 t53:=Tryz.underlying257
 a53:=Tryz.isAgg257
 z53:=Tryz.sizeOf257
 v53:=Tryz.zeroValue257
 t171:=Tryz.underlying354
 a171:=Tryz.isAgg354
 z171:=Tryz.sizeOf354
 v171:=Tryz.zeroValue354
 t173:=Tryz.underlying356
 a173:=Tryz.isAgg356
 z173:=Tryz.sizeOf356
 v173:=Tryz.zeroValue356
 t212:=Tryz.underlying364
 a212:=Tryz.isAgg364
 z212:=Tryz.sizeOf364
 v212:=Tryz.zeroValue364
 t213:=Tryz.underlying365
 a213:=Tryz.isAgg365
 z213:=Tryz.sizeOf365
 t232:=Tryz.underlying366
 a232:=Tryz.isAgg366
 z232:=Tryz.sizeOf366
 v232:=Tryz.zeroValue366
 t233:=Tryz.underlying367
 a233:=Tryz.isAgg367
 z233:=Tryz.sizeOf367
 v233:=Tryz.zeroValue367
 g17:=by kernel_rfl
 g18:=by kernel_rfl
 g19:=by kernel_rfl
 i0:=by kernel_rfl
 i2:=by kernel_rfl
 i3:=by kernel_rfl
 i4:=by kernel_rfl
 i5:=by kernel_rfl
 i9:=by kernel_rfl
 i20:=by kernel_rfl
 i37:=by kernel_rfl
 i46:=by kernel_rfl
 i51:=by kernel_rfl
 i53:=by kernel_rfl
 i171:=by kernel_rfl
 i173:=by kernel_rfl
 i212:=by kernel_rfl
 i232:=by kernel_rfl
 i233:=by kernel_rfl
 m17:=by kernel_rfl
 m18:=by kernel_rfl
 m19:=by kernel_rfl}
end Go.Proofs
namespace Go.GV
open Go Go.GK
def gF:Int->Bool
 | .ofNat m=>Nat.ble m 9223372036854775807
 | .negSucc m=>Nat.ble m 9223372036854775807
theorem aO:∀(n:Int),gF n=Br↔Dn n
 | .ofNat m=>by have e:Int.ofNat m=(m:Int):=rfl;simp only[gF,Dn,Nat.ble_eq,e];omega
 | .negSucc m=>by simp only[gF,Dn,Nat.ble_eq];omega
instance(priority:=2000) decF64(n:Int):Decidable (-9223372036854775808<=n/\n<=9223372036854775807):=decidable_of_iff (gF n=Br) (aO n)
inductive Ty where
 |int (k:Kj)|bool|str|sl (t:Ty)|st (t:Ty)|pr (a b:Ty)|un|bs|nm (i:Nat)|ar (n:Nat) (t:Ty)
def kb:Kj->Kj->Bool
 | .i8, .i8| .i16, .i16| .i32, .i32| .i64, .i64| .u8, .u8| .u16, .u16| .u32, .u32| .u64, .u64=>Br
 |_,_=>Ap
theorem OB:∀ {a b:Kj},kb a b=Br->a=b:=by intro a b;cases a<;>cases b<;>simp[kb]
def Ty.Kw:Ty->Ty->Bool
 | .int j, .int k=>kb j k
 | .bool, .bool| .str, .str| .un, .un| .bs, .bs=>Br
 | .sl a, .sl b| .st a, .st b=>a.Kw b
 | .pr a b, .pr c d=>a.Kw c&&b.Kw d
 | .nm i, .nm j=>Nat.beq i j
 | .ar n a, .ar m b=>Nat.beq n m&&a.Kw b
 |_,_=>Ap
theorem Adx:∀ {a b:Ty},a.Kw b=Br->a=b
 | .int j,b,h=>by cases b<;>simp_all [Ty.Kw];exact OB h
 | .bool,b,h=>by grind[Ty.Kw]
 | .str,b,h=>by grind[Ty.Kw]
 | .un,b,h=>by grind[Ty.Kw]
 | .bs,b,h=>by grind[Ty.Kw]
 | .nm i,b,h=>by cases b<;>simp_all [Ty.Kw]
 | .sl a,b,h=>by cases b<;>simp_all [Ty.Kw];exact Adx h
 | .st a,b,h=>by cases b<;>simp_all [Ty.Kw];exact Adx h
 | .pr a c,b,h=>by cases b<;>simp_all [Ty.Kw];exact⟨Adx h.1,Adx h.2⟩
 | .ar n a,b,h=>by cases b<;>simp_all [Ty.Kw];exact Adx h.2
theorem fT(k:Kj):kb k k=Br:=by cases k<;>rfl
theorem Ty.Se(t:Ty):t.Kw t=Br:=by
 induction t with
 |int k=>exact fT k
 |_=>simp_all [Ty.Kw]
def Ty.den(T:Nat->Type):Ty->Type
 | .int _=>Int
 | .bool=>Bool
 | .str=>Au
 | .sl t=>List (t.den T)
 | .st t=>t.den T
 | .pr a b=>a.den T×b.den T
 | .un=>Unit
 | .bs=>xZ
 | .nm i=>T i
 | .ar _ t=>List (t.den T)
def Ty.agg:Ty->Bool
 | .st _| .bs| .nm _| .ar _ _| .pr _ _| .un=>Br
 |_=>Ap
section
variable{T:Nat->Type}
def EE:Ty->Bool
 | .int _| .bool| .str| .un| .bs=>Br
 | .st t=>EE t
 | .pr a b=>EE a&&EE b
 |_=>Ap
def V8{a b:Ty}(h:a.Kw b=Br)(x:a.den T):b.den T:=Eq.rec (motive:=λb _=>b.den T) x (Adx h)
def cK(k:Kj):Cd Int where
 sz:=1
 BI _ n c:=c=[.int k n]/\k.min<=n/\n<=k.max
 len h:=by grind
 mono _ h:=h
 one h:=by rw[h.1];intro u a;simp at a;subst a;rfl
def qX:Kj->Cd Int
 | .i64=>qY
 | .u8=>cU8
 |k=>cK k
def cUn:Cd Unit where
 sz:=0
 BI _ _ b:=b=[]
 len h:=by grind
 mono _ h:=h
 one h:=by grind
def SA{T:Nat->Type}(c:(i:Nat)->Cd (T i)):(t:Ty)->Cd (t.den T)
 | .int k=>qX k
 | .bool=>cB
 | .str=>cS
 | .sl t=>cL (SA c t)
 | .st t=>SA c t
 | .pr a b=>cP (SA c a) (SA c b)
 | .un=>cUn
 | .bs=>cBs
 | .nm i=>c i
 | .ar n t=>cA n (SA c t)
structure C6 where
 T:Nat->Type
 body:Nat->Ty
 out:(i:Nat)->T i->(body i).den T
 vE:(i:Nat)->(body i).den T->T i
 size:Nat->Nat
 id:Ee->Option Nat
 cd:(i:Nat)->Cd (T i)
 size_eq:∀i,(cd i).sz=size i
 LF:∀i x,out i (vE i x)=x
 lay:∀ {i H a cs},(cd i).BI H a cs↔(SA cd (body i)).BI H (out i a) cs
 prog:Option Ge:=C7
 inv:Hp->Prop:=λ_=>True
 Cz:∀ {H H'},H.le H'->inv H->inv H':=by intros;trivial
end
section
variable (N : C6)
abbrev C6.c(t:Ty):Cd (t.den N.T):=SA N.cd t
def Ty.sz:Ty->Nat
 | .st t=>t.sz
 | .pr a b=>a.sz+b.sz
 | .un=>0
 | .bs=>4
 | .nm i=>N.size i
 | .ar n t=>n*t.sz
 |_=>1
variable {N}
section
variable{H:Hp}{cs:List BU}
theorem Bk:∀t:Ty,(N.c t).sz=t.sz N
 | .int k=>by cases k<;>rfl
 | .bool=>rfl
 | .str=>rfl
 | .sl _=>rfl
 | .st t=>Bk t
 | .pr a b=>by show(N.c a).sz+(N.c b).sz=a.sz N+b.sz N;rw[Bk a,Bk b]
 | .un=>rfl
 | .bs=>rfl
 | .nm i=>N.size_eq i
 | .ar n t=>by show n*(N.c t).sz=n*t.sz N;rw[Bk t]
theorem OT{a b:Ty}(h:a.Kw b=Br){x:a.den N.T}(d:(N.c a).BI H x cs):(N.c b).BI H (V8 h x) cs:=by have e:=Adx h;subst e;exact d
theorem Bb{t:Ty}{H:Hp}{x:t.den N.T}{cs:List BU}(h:(N.c t).BI H x cs):cs.length=t.sz N:=by rw[<-Bk];exact(N.c t).len h
def T9(k:Kj)(n:Int):Prop:=match k with
 | .i64=>True
 | .u8=>0<=n/\n<=255
 |k=>k.min<=n/\n<=k.max
theorem DL{k:Kj}{n:Int} :(qX k).BI H n cs↔cs=[.int k n]/\T9 k n:=by cases k<;>simp[qX,qY,cU8,cK,T9]
end
end
def rdH(v:BU):Option (DataW BU×List MemPlace):=Ac (.held v,[])
section
variable {P : Ge} {kt et : Ee} {κ : Type} [DecidableEq κ]
def Qw(K:NP P kt κ)(b:Nat)(m:List (κ×BU))(w:GD):Prop:= ∃D:DataW BU,w.ownsMap P kt rdH b m.length D/\Maps.size D=m.length/\(∀k,Maps.has D (K.lit k)=(AA m k).isSome)/\∀k x,AA m k=Ac x->∀z,D.atKey (K.lit k) z= .held x
def Ki(K:NP P kt κ)(b:Nat)(m:List (κ×BU)):Av:= .own b (Qw K b m) (λ_ ⟨_,h,_⟩=>h.lt) (λ_ _ _ ⟨D,h,c⟩ d a=>⟨D,h.kept d (λe=>a e.symm),c⟩)
variable {K : NP P kt κ} {T : Ee} {E : Dc -> Option BU} {H : Hp} {O : List Av} {t : Ee}
section
variable{b:Nat}{m:List (κ×BU)}{x:Dc}{i:Nat}{k:κ}{y:Dc}{v:BU}{n bytes:Nat}{z:BU}{u:Dc}
theorem Aif(ht:P.underlying t=Ac (.map kt et))(C:TI P et n bytes z)(A:E x=Ac (.map (Ac b)))(B:E y=Ac (K.val k))(q:K.ok k)(hi:O[i]?=Ac (Ki K b m)):
  Aq P (.lookup t x y Ap) T E H O ((AA m k).getD z):= .Am λG w o r _ g s=>by
 obtain⟨D,j,I,l,p⟩:Qw K b m w:=s.ok i _ hi;obtain⟨v,F,d,a⟩:=j.lookup K.keyed ht C.zeroValue (zd:= .held z) (zp:=[]) rfl (K.of k q);have e:v=(AA m k).getD z:=by
  have a:Ac ((DataW.held v:DataW BU),([]:List MemPlace))=Ac (_,F):=a;cases h:AA m k with
  |none=>
   grind[Maps.atKey_of_not_has]
  |some u=>simp_all
 simp_all[ID]
theorem Aig(ht:P.underlying t=Ac (.map kt et))(F:TI P et n bytes z)(B:E x=Ac (.map (Ac b)))(C:E y=Ac (K.val k))(r:K.ok k)(hi:O[i]?=Ac (Ki K b m)):
  Aq P (.lookup t x y Br) T E H O (.tuple #[(AA m k).getD z, .bool (AA m k).isSome]):= .Am λI w o s _ j A=>by
 obtain⟨D,p,J,h,q⟩:Qw K b m w:=A.ok i _ hi;obtain⟨v,G,a,c⟩:=p.look_ok K.keyed ht F.zeroValue (zd:= .held z) (zp:=[]) rfl (K.of k r);have e:v=(AA m k).getD z:=by
  have c:Ac ((DataW.held v:DataW BU),([]:List MemPlace))=Ac (_,G):=c;cases l:AA m k with
  |none=>
   grind[Maps.atKey_of_not_has]
  |some u=>simp_all
 simp_all[ID]
theorem Ajt(ht:P.underlying t=Ac (.map kt et))(j:E x=Ac (.map (Ac b)))(hi:O[i]?=Ac (Ki K b m)):
  Aq P (.call {callee:= .builtin .len,args:= #[x],argTypes:= #[t]}) T E H O (.int .i64 ((m.length:Nat):Int)):= .Am λk w o g _ f h=>by
 obtain⟨D,d,e,l,n⟩:Qw K b m w:=h.ok i _ hi;have:=d.len ht o.type;rw[e]at this;simp[ID,g,f x _ j,resolve,invoke,builtin,this]
theorem Qw.store{w:GD}(h:Qw K b m w)(ht:P.underlying t=Ac (.map kt et))(u:K.ok k)(B:m.length<=Ag):
  ∃w',(Instr.mapUpdate t (.map (Ac b)) (K.val k) v).run P w= .ok () w'/\Qw K b (Bs m k v) w'/\w.grownBy w' (Ac b):=by
 obtain⟨D,f,r,l,s⟩:=h;obtain⟨w',o,p,q⟩:=f.update K.keyed ht (by simp only[Ag,maxLen]at*;omega) (K.of k u) (d:= .held v) (ps:=[]) rfl;have c:Maps.size (D.put (K.lit k) (.held v))=(Bs m k v).length:=by rw[Maps.size_put (f.tidy K.keyed),l k,r,Kr]
 refine⟨w',o,⟨_,?_,c,λg=>?_,λg x a z=>?_⟩,q⟩
 ·obtain⟨j,clock,y,A,C,n⟩:=p;refine⟨j,clock,y,A,?_,n⟩;simp_all[Maps.size,Go.length_read,Aad]
 ·rw[HW];by_cases e:g=k;· subst e;rw[if_pos rfl,Maps.has_put_same f.isMap (K.key _)];rfl
  ·rw[if_neg e,Maps.has_put_other (λx=>e (K.inj _ _ x)),l]
 ·rw[HW]at a;by_cases e:g=k;· subst e;rw[if_pos rfl]at a;injection a with a;subst a;exact Maps.atKey_put_same f.isMap (K.key _) _ _
  ·rw[Maps.atKey_put_other (λx=>e (K.inj _ _ x))];grind
theorem Aib(ht:P.underlying t=Ac (.map kt et))(A:E x=Ac (.map (Ac b)))(B:E y=Ac (K.val k))(z:E u=Ac v)(q:K.ok k)(r:m.length<=Ag)(hi:O[i]?=Ac (Ki K b m)):
  BJ P (.mapUpdate t x y u) T E H O (λ_ g h=>g=H/\h=O.set i (Ki K b (Bs m k v))):= .LG λa w o s _ e f=>by
 obtain⟨C,j,l,n⟩:=Qw.store (f.ok i _ hi) ht q r;refine⟨C,H,_,?_,Hp.le.refl H,⟨rfl,rfl⟩,f.set hi n l (λc p=> .inl p)⟩;simp_all[ID]
theorem Ahz(ht:P.underlying t=Ac (.map kt et))(A:E x=Ac (.map (Ac b)))(B:E y=Ac (K.val k))(z:E u=Ac v)(q:K.ok k)(r:m.length<=Ag)(hi:O[i]?=Ac (Ki K b m)):
  BJ P (.insert t x y u) T E H O (λ_ g h=>g=H/\h=O.set i (Ki K b (Bs m k v))):= .LG λa w o s _ e f=>by
 obtain⟨C,j,l,n⟩:=Qw.store (f.ok i _ hi) ht q r;refine⟨C,H,_,?_,Hp.le.refl H,⟨rfl,rfl⟩,f.set hi n l (λc p=> .inl p)⟩;simp_all[ID]
theorem Aia(K:NP P kt κ):BJ P (.makeMap t C7) T E H O (λv d e=> ∃B,v= .map (Ac B)/\d=H/\e=Ki K B []::O):= .Am λa w o g _ j i=>by
 refine⟨.map (Ac w.heap.size),w.alloc (.map #[] 0),H,Ki K w.heap.size []::O,?_,Hp.le.refl H,⟨_,rf,rf,rf⟩,i.push (GD.grownBy_alloc w _ C7) ?_ (λb f=>by grind[Ki,Av.has])⟩;· simp[ID,g,Go.RowKit.run_makeMap]
 ·exact⟨.map [],GD.ownsMap_made w P kt _,rfl,λk=>rfl,λk x h=>by cases h⟩
end
end
section
variable{P:Ge}
def fv:Int->Nat
 | .ofNat n=>2*n
 | .negSucc n=>2*n+1
theorem fr:∀ {a b:Int},fv a=fv b->a=b
 | .ofNat n, .ofNat m,h=>by grind[fv]
 | .ofNat n, .negSucc m,h=>by grind[fv]
 | .negSucc n, .ofNat m,h=>by grind[fv]
 | .negSucc n, .negSucc m,h=>by grind[fv]
def np(m n:Nat):Nat:=(m+n)*(m+n)+m
theorem mE{m n a b:Nat}(h:m+n<a+b):np m n<np a b:=by have c:(m+n+1)*(m+n+1)<=(a+b)*(a+b):=Aci h h;grind[np]
theorem o_{m n a b:Nat}(h:np m n=np a b):m=a/\n=b:=by
 rcases Adb (m+n) (a+b)with e|e|e;· have:=mE e;omega
 ·grind[np]
 ·have:=mE e;omega
open Classical in
noncomputable def Vg(x:Int×Int):Lit:=if Dn x.1/\Dn x.2 then .string (keyBytes [.int .i64 x.1, .int .i64 x.2])else .int .u8 ((np (fv x.1) (fv x.2):Nat):Int)
def gl:Option TypeDesc->Bool
 |some (.int .i64)=>Br
 |_=>Ap
theorem VJ{d:Option TypeDesc}(h:gl d=Br):d=Ac (.int .i64):=by grind[gl]
def Oz(P:Ge)(g:Ee):Bool:=(Nat.blt g P.types.size&&Nat.ble (P.types.size+2) 10000)&&(P.keyType g&&match P.underlying g with
 |some (.struct ⟨[a,b]⟩)=>Nat.beq (P.cellsOf g) 2&&((Nat.beq a.offset 0&&(Nat.beq (P.cellsOf a.type) 1&&gl (P.underlying a.type)))&&(Nat.beq b.offset 1&&(Nat.beq (P.cellsOf b.type) 1&&gl (P.underlying b.type))))
 |_=>Ap)
theorem K2{d:Nat}{t:Ee}{a:Int}(c:P.underlying t=Ac (.int .i64))(b:Dn a):P.keyLits (d+1) t [.int .i64 a]=Ac [.int .i64 a]:=by unfold Ge.keyLits;simp only[c];rw[if_pos ⟨trivial,uA b⟩]
theorem Pu{P:Ge}{g:Ee}(h:Oz P g=Br){a b:Int}(y:Dn a)(z:Dn b):keyOf P g (.agg #[.int .i64 a, .int .i64 b])=Ac (.string (keyBytes [.int .i64 a, .int .i64 b])):=by
 unfold Oz at h;simp only[AS]at h;obtain⟨⟨q,D⟩,e,m⟩:=h;split at m
 ·rename_i j k n;simp only[AS]at m;obtain⟨c,⟨r,o,t⟩,s,p,u⟩:=m;have c:=AI c;have r:=AI r;have o:=AI o;have s:=AI s;have p:=AI p;have t:=VJ t;have u:=VJ u;have C:(⟨[j,k]⟩:Array _).all (λf=>f.name != "_")=Br:=by
   unfold Ge.keyType Ge.keyTypeAt at e;rw[n]at e;simp only[AS]at e;have e:=e.1.1;simp at e⊢;exact⟨e.1.1,e.2.1⟩
  have q:g<P.types.size:=by simpa using q
  obtain⟨d,v⟩:∃d,P.types.size=d+1:=⟨P.types.size-1,(Nat.succ_pred_eq_of_pos (Agh (Abh _) q)).symm⟩;have B:P.keyLits (P.types.size+1) g [.int .i64 a, .int .i64 b]=Ac [.int .i64 a, .int .i64 b]:=by
   unfold Ge.keyLits;simp only[n];rw[if_pos ⟨by rw[c];rfl,C⟩];have w:P.keyLits P.types.size j.type ((([.int .i64 a, .int .i64 b]:List BU).drop j.offset).take (P.cellsOf j.type))=Ac [.int .i64 a]:=by rw[r,o,v];exact K2 t y
   have x:P.keyLits P.types.size k.type ((([.int .i64 a, .int .i64 b]:List BU).drop k.offset).take (P.cellsOf k.type))=Ac [.int .i64 b]:=by rw[s,p,v];exact K2 u z
   simp[w,x]
  unfold keyOf;rw[n];have A:(P.keyType g&&(BU.agg #[.int .i64 a, .int .i64 b]).formed P g)=Br:=by rw[e,Aht];unfold BU.formed;rw[n];simp[c]
  rw[if_pos A];show(P.keyLits (P.types.size+1) g [.int .i64 a, .int .i64 b]).map _=_;grind
 grind
noncomputable def mkP{g:Ee}(n:laidOutB P=Br)(h:Oz P g=Br):NP P g (Int×Int)where
 val x:= .agg #[.int .i64 x.1, .int .i64 x.2]
 lit:=Vg
 ok x:=Dn x.1/\Dn x.2
 keyed:=by
  unfold Oz at h;simp only[AS]at h;obtain⟨⟨a,c⟩,i,d⟩:=h;have a:g<P.types.size:=by simp_all
  have c:P.types.size+2<=10000:=by simp_all
  refine Maps.Keyed.of_law (deep_law_laid n (m:=P.types.size+1) (by omega) a i ?_);grind
 of x b:=by grind[Vg,Pu]
 key x:=by unfold Vg;split<;>trivial
 inj x y e:=by
  unfold Vg at e;split at e
  ·rename_i b;split at e
   ·rename_i o;have f:=h;unfold Oz at f;simp only[AS]at f;obtain⟨⟨a,c⟩,i,d⟩:=f;have a:g<P.types.size:=by simpa using a
    have c:P.types.size+2<=10000:=by simpa using c
    have r:=deep_law_laid n (m:=P.types.size+1) (by omega) a i (by
     split at d;· rename_i j;rw[j]
     ·cases d);have l:=Pu h b.1 b.2;rw[e]at l;have:=r.inj l (Pu h o.1 o.2);simp at this;exact Acr this.1 this.2
   grind
  grind[np,fv,o_,Prod.ext,fr]
end
end Go.GV
namespace Go.GK
section
variable {w : GD} {H : Hp} {O : List Av} {i : Nat} {v : BU} {e e' : Ee} {n sz : Nat} {xs : List BU} {rs : List (Option (Nat × List BU))}
section
variable{α:Type}{j:Nat}{s:α}
def R8(e':Ee)(sz:Nat):List BU->List (Option (Nat×List BU))->List Av
 |u::xs,Ac (m,ys)::rs=> .row u e' sz m ys::R8 e' sz xs rs
 |_::xs,C7::rs=> .emp::R8 e' sz xs rs
 |_,_=>[]
theorem P1:∀ {xs:List BU} {rs:List (Option (Nat×List BU))} {a:Nat} {r:Av},(R8 e' sz xs rs)[a]?=Ac r->∃u,xs[a]?=Ac u/\((∃m ys,rs[a]?=Ac (Ac (m,ys))/\r= .row u e' sz m ys)\/r= .emp)
 |u::xs,Ac (m,ys)::rs,0,r,h=>by simp[R8]at h;exact⟨u,rfl, .inl ⟨m,ys,rfl,h.symm⟩⟩
 |u::xs,Ac (m,ys)::rs,a+1,r,h=>by have:=P1 (xs:=xs) (rs:=rs) (a:=a) (r:=r) (by simpa [R8]using h);simpa using this
 |u::xs,C7::rs,0,r,h=>by simp[R8]at h;exact⟨u,rfl, .inr h.symm⟩
 |u::xs,C7::rs,a+1,r,h=>by have:=P1 (xs:=xs) (rs:=rs) (a:=a) (r:=r) (by simpa [R8]using h);simpa using this
 | [],_,_,_,h=>by simp[R8]at h
 |_::_,[],_,_,h=>by simp[R8]at h
theorem WT{O:List α}{r:α}(h:(O.set i r)[j]?=Ac s):(j=i/\s=r)\/(j≠i/\O[j]?=Ac s):=by
 rw[Adw]at h;by_cases e:i=j
 ·subst e;by_cases a:i<O.length;· simp[a]at h;exact .inl ⟨rfl,h.symm⟩
  ·simp[a]at h
 ·simp[e]at h;exact .inr ⟨λx=>e x.symm,h⟩
theorem XW{A B:List α}(h:(A++B)[j]?=Ac s):(j<A.length/\A[j]?=Ac s)\/∃a,j=A.length+a/\B[a]?=Ac s:=by
 by_cases b:j<A.length;· rw[Aaa b]at h;exact .inl ⟨b,h⟩
 ·rw[Aab (by omega)]at h;exact .inr ⟨j-A.length,by omega,h⟩
theorem SH.flat(h:SH w H O)(hi:O[i]?=Ac (.Ep v e n xs e' sz rs)):SH w H (O.set i (.row v e 1 n xs)++R8 e' sz xs rs):=by
 have F:Is w v e n xs e' sz rs:=h.ok i _ hi;have key:∀j r,(O.set i (.row v e 1 n xs)++R8 e' sz xs rs)[j]?=Ac r->(j≠i/\j<O.length/\O[j]?=Ac r)\/(j=i/\r= .row v e 1 n xs)\/∃a u,j=O.length+a/\xs[a]?=Ac u/\((∃m l,rs[a]?=Ac (Ac (m,l))/\r= .row u e' sz m l)\/r= .emp):=λj r s=>by
  rcases XW s with⟨d,f⟩|⟨a,d,f⟩
  ·rcases WT f with⟨o,p⟩|⟨o,p⟩;· exact .inr (.inl ⟨o,p⟩)
   ·exact .inl ⟨o,by simpa using d,p⟩
  ·obtain⟨u,o,p⟩:=P1 f;exact .inr (.inr ⟨a,u,by simpa using d,o,p⟩)
 refine⟨h.Ny,h.os,h.output,h.tape,λj r s=>?_,λj r b s g=>?_,λj k r q b s G g c=>?_⟩
 ·rcases key j r s with⟨_,_,d⟩|⟨_,rfl⟩|⟨a,u,_,d,⟨m,l,f,rfl⟩|rfl⟩;· exact h.ok j r d
  ·exact F.top
  ·exact F.row a u m l d f
  ·trivial
 ·rcases key j r s with⟨_,_,d⟩|⟨_,rfl⟩|⟨a,u,_,d,⟨m,l,f,rfl⟩|rfl⟩;· exact h.JC j r b d g
  ·exact h.JC i _ b hi (.inl g)
  ·exact h.JC i _ b hi (.inr ⟨a,u,m,l,d,f,g⟩)
  ·exact g.elim
 ·have y:∀ {j k:Nat} {r q:Av},(j≠i/\j<O.length/\O[j]?=Ac r)->r.has b->((k=i/\q= .row v e 1 n xs)\/∃a u,k=O.length+a/\xs[a]?=Ac u/\((∃m l,rs[a]?=Ac (Ac (m,l))/\q= .row u e' sz m l)\/q= .emp))->q.has b->False:=λ{j k r q} d g f c=>by
   rcases f with⟨_,rfl⟩|⟨a,u,_,o,⟨m,l,p,rfl⟩|rfl⟩;· exact d.1 (h.nd j i _ _ b d.2.2 hi g (.inl c))
   ·exact d.1 (h.nd j i _ _ b d.2.2 hi g (.inr ⟨a,u,m,l,o,p,c⟩))
   ·exact c.elim
  rcases key j r s with d|d
  ·rcases key k q G with f|f;· exact h.nd j k r q b d.2.2 f.2.2 g c
   ·exact(y d g f c).elim
  ·rcases key k q G with f|f;· exact(y f c d g).elim
   ·rcases d with⟨A,rfl⟩|⟨a,u,A,o,⟨m,l,p,rfl⟩|rfl⟩
    ·rcases f with⟨x,rfl⟩|⟨z,E,x,B,⟨D,t,C,rfl⟩|rfl⟩;· rw[A,x]
     ·exact absurd g (F.out z E D t b B C c)
     ·exact c.elim
    ·rcases f with⟨x,rfl⟩|⟨z,E,x,B,⟨D,t,C,rfl⟩|rfl⟩;· exact absurd c (F.out a u m l b o p g)
     ·rw[A,x,F.one a z u E m D l t b o p B C g c]
     ·exact c.elim
    ·exact g.elim
end
end
end Go.GK
namespace Go.GV
open Go Go.GK
inductive PX(T:Nat->Type)where
 |sub (i n:Nat) (t:Ty)
 |sf
 |dx (t:Ty) (x:List (t.den T))
 |any
 |ub
 |sd (m:Nat)
 |hc (n:Nat)
 |fo (i:Nat)
 |fi (i:Nat)
 |fe (i j:Nat) (t:Ty)
inductive SV(T:Nat->Type)where
 |d (t:Ty) (x:t.den T)
 |na (n:Nat)
 |ct (i n:Nat)
 |cb (i n:Nat)
 |lt (i n m:Nat)
 |lb (b:Bool)
 |raw (v:BU)
 |ud
 |no
 |loc (k off:Nat)
 |AG (k:Nat)
 |DU (k:Nat) (i:Int) (off:Nat) (t:Ty) (x:t.den T)
 |pd (t:Ty) (x:t.den T) (off:Nat)
 |mp (k:Nat)
 |lf (s:Nat) (a l:SV T)
 |nl
 |t2 (a b:SV T)
 |t3 (a b c:SV T)
 |AK (f:Nat) (l:SV T) (cs:List Nat)
 |vn
 |vc (a l:SV T)
 |px (ks:List Nat) (p:PX T)
 |Cr (j:Nat)
inductive SR(T:Nat->Type)where
 |Ah (g:Ee) (l:SV T)
 |row (g:Ee) (t:Ty) (l:List (t.den T))
 |Cr (j:Nat)
 |gone
 |map (g:Ee) (kt vt:Ty) (l:List (kt.den T×vt.den T))
 |Ep (g e:Ee) (t:Ty) (h:Nat) (l:List (Bool×List (t.den T)))
def Ax{α:Type} :List (Nat×α)->Nat->Option α
 | [],_=>C7
 |(k,v)::l,t=>match Nat.beq k t with
  |true=>Ac v
  |false=>Ax l t
def SV.AJ{T:Nat->Type} :SV T->List Nat
 | .loc k _| .AG k| .DU k _ _ _ _| .mp k=>[k]
 | .lf _ a l=>a.AJ++l.AJ
 | .t2 a b=>a.AJ++b.AJ
 | .t3 a b c=>a.AJ++(b.AJ++c.AJ)
 | .AK _ l e=>l.AJ++e
 | .vc a l=>a.AJ++l.AJ
 | .px g _=>g
 |_=>[]
def SR.AJ{T:Nat->Type} :SR T->List Nat
 | .Ah _ l=>l.AJ
 | .Ep _ _ _ h _=>[h]
 |_=>[]
abbrev QP:Nat:=9223372036854775807
section
variable {N : C6}
def Cu(t:Ty)(cs:List BU)(v:BU):Prop:=match t.agg with
 |true=>v= .agg cs.toArray
 |false=>cs=[v]
def PX.is(us:List BU)(H:Hp):PX N.T->BU->Prop
 | .sub i n t,v=> ∃a m c,us=[.slice (Ac a) m c]/\i+n<=m/\v= .slice (Ac (a.add (i*t.sz N))) n n
 | .sf,v=>v= .pointer C7\/∃B,us=[ptr B 0]/\v=ptr B 0
 | .any,_=>True
 | .ub,v=> ∃b,v= .bool b
 | .sd m,v=>(∃p,v= .pointer p)/\(0<m->∃u,us=[u]/\v=AO u 0)
 | .fo i,v=> ∃a n c,us=[.slice (Ac a) n c]/\i<n/\v=AO (.slice (Ac a) n c) i
 | .fi i,v=> ∃d u,us=[.tuple d,u]/\d[i]?=Ac v
 | .fe i j t,v=> ∃d u x,us=[.tuple d,u]/\d[i]?=Ac x/\v=AO x (j*t.sz N)
 | .hc n,v=>n<=QP/\∃B,us=[ptr B 0]/\v= .slice (Ac ⟨B,0,C7⟩) n n
 | .dx t x,v=>(∃a,v= .slice a x.length x.length)/\∃e,(N.c (.sl t)).BI H x e/\Cu (.sl t) e v
theorem PX.mono{us:List BU}{H a:Hp}(f:H.le a):∀ {p:PX N.T} {v:BU},p.is us H v->p.is us a v
 | .sub _ _ _,_,h=>h
 | .sf,_,h=>h
 | .any,_,h=>h
 | .ub,_,h=>h
 | .sd _,_,h=>h
 | .hc _,_,h=>h
 | .fo _,_,h=>h
 | .fi _,_,h=>h
 | .fe _ _ _,_,h=>h
 | .dx t x,v,⟨c,b,d,e⟩=>⟨c,b,(N.c (.sl t)).mono f d,e⟩
def SV.BN(g:Nat->BU->Prop)(η:Nat->BU)(H:Hp):SV N.T->BU->Prop
 | .d t x,v=> ∃h,(N.c t).BI H x h/\Cu t h v
 | .na n,v=>v= .int .i64 n/\n<=QP
 | .ct _ n,v=>v= .int .i64 n/\n<=QP
 | .cb _ n,v=>v= .int .i64 n/\n<QP
 | .lt _ n m,v=>v= .bool (decide ((n:Int)<(m:Int)))/\m<=QP
 | .lb b,v=>v= .bool b
 | .raw u,v=>v=u
 | .ud,v=>v=undef
 | .no,_=>True
 | .loc k off,v=> ∃B,η k=ptr B 0/\v=ptr B off
 | .AG k,v=>v=η k/\v.oneCell'=Br
 | .DU k i off t _,v=>v=AO (η k) (i.toNat*t.sz N+off)/\∃a n c,η k= .slice (Ac a) n c
 | .pd t x off,v=> ∃(a:Addr) (k:Nat) (h:List BU),v= .pointer (Ac (a.add (k+off)))/\(N.c t).BI H x h/\∀j u,h[j]?=Ac u->DG H (.pointer (Ac (a.add (k+j)))) u
 | .mp k,v=>v=η k/\v.oneCell'=Br
 | .lf s a l,v=> ∃q w u,v= .agg (q++w).toArray/\q.length=s/\a.BN g η H u/\u.cells.toList=q/\(∀x∈q,x.oneCell'=Br)/\l.BN g η H (.agg w.toArray)
 | .nl,v=>v= .agg #[]
 | .t2 a b,v=> ∃x y,v= .tuple #[x,y]/\a.BN g η H x/\b.BN g η H y
 | .t3 a b c,v=> ∃x y z,v= .tuple #[x,y,z]/\a.BN g η H x/\b.BN g η H y/\c.BN g η H z
 | .AK f l h,v=> ∃o:List BU,v= .func (.func f) o.toArray (h.map η).toArray/\l.BN g η H (.tuple o.toArray)
 | .vn,v=>v= .tuple #[]
 | .vc a l,v=> ∃(u:BU) (o:List BU),v= .tuple (u::o).toArray/\a.BN g η H u/\l.BN g η H (.tuple o.toArray)
 | .px E p,v=>p.is (E.map η) H v
 | .Cr j,v=>g j v
def SV.is(C:List (SV N.T))(η:Nat->BU)(H:Hp):SV N.T->BU->Prop:=SV.BN (λj v=> ∃s,C[j]?=Ac s/\SV.BN (λ_ _=>False) η H s v) η H
section
variable{H:Hp}
theorem SV.BN.imp{g p:Nat->BU->Prop}{η:Nat->BU}{H:Hp}(e:∀j v,g j v->p j v):∀ {s:SV N.T} {v:BU},s.BN g η H v->s.BN p η H v
 | .d t x,v,h=>h
 | .na _,_,h=>h
 | .ct _ _,_,h=>h
 | .cb _ _,_,h=>h
 | .lt _ _ _,_,h=>h
 | .lb _,_,h=>h
 | .raw _,_,h=>h
 | .ud,_,h=>h
 | .no,_,h=>h
 | .loc _ _,_,h=>h
 | .AG _,_,h=>h
 | .DU _ _ _ _ _,_,h=>h
 | .pd t x off,v,h=>h
 | .mp _,_,h=>h
 | .lf s a l,v,⟨q,r,u,i,k,m,n,B,C⟩=>⟨q,r,u,i,k,SV.BN.imp e m,n,B,SV.BN.imp e C⟩
 | .nl,_,h=>h
 | .t2 a b,v,⟨x,y,i,k,m⟩=>⟨x,y,i,SV.BN.imp e k,SV.BN.imp e m⟩
 | .t3 a b c,v,⟨x,y,z,i,k,m,n⟩=>⟨x,y,z,i,SV.BN.imp e k,SV.BN.imp e m,SV.BN.imp e n⟩
 | .AK f l J,v,⟨o,i,k⟩=>⟨o,i,SV.BN.imp e k⟩
 | .vn,_,h=>h
 | .vc a l,v,⟨u,o,i,k,m⟩=>⟨u,o,i,SV.BN.imp e k,SV.BN.imp e m⟩
 | .px _ _,_,h=>h
 | .Cr j,v,h=>e j v h
def D_(a:Ty)(H:Hp){κ:Type} :List (κ×a.den N.T)->List (κ×BU)->Prop
 | [],[]=>True
 |p::l,q::m=>p.1=q.1/\(∃b,(N.c a).BI H p.2 b/\Cu a b q.2)/\D_ a H l m
 |_,_=>False
theorem D_.mono{a:Ty}{H b:Hp}(c:H.le b){κ:Type} :∀ {l:List (κ×a.den N.T)} {m:List (κ×BU)},D_ a H l m->D_ a b l m
 | [],[],h=>h
 |p::l,q::m,⟨e,⟨d,f,g⟩,i⟩=>⟨e,⟨d,(N.c a).mono c f,g⟩,D_.mono c i⟩
 | [],_::_,h=>h.elim
 |_::_,[],h=>h.elim
def RA(H:Hp)(B:Nat)(g:Ee)(b:Ty):(c:Ty)->List (c.den N.T×b.den N.T)->Av->Prop
 | .str,l,r=> ∃(P:Ge) (K:NP P g Au) (a:List (Au×BU)),N.prog=Ac P/\(∀x,K.val x=sv x)/\(∀x,x.length<=Ag->K.ok x)/\r=Ki K B a/\D_ (κ:=Au) b H l a
 | .int .i64,l,r=> ∃(P:Ge) (K:NP P g Int) (a:List (Int×BU)),N.prog=Ac P/\(∀x,K.val x= .int .i64 x)/\(∀x,Dn x->K.ok x)/\r=Ki K B a/\D_ (κ:=Int) b H l a
 | .st (.pr (.int .i64) (.int .i64)),l,r=> ∃(P:Ge) (K:NP P g (Int×Int)) (a:List ((Int×Int)×BU)),N.prog=Ac P/\(∀x,K.val x= .agg #[.int .i64 x.1, .int .i64 x.2])/\(∀x,Dn x.1/\Dn x.2->K.ok x)/\r=Ki K B a/\D_ (κ:=Int×Int) b H l a
 |_,_,_=>False
theorem RA.mono{m:Hp}(i:H.le m){B:Nat}{g:Ee}{k j:Ty}{l:List (j.den N.T×k.den N.T)}{r:Av}(h:RA H B g k j l r):RA m B g k j l r:=by
 unfold RA at h;split at h;· obtain⟨P,K,f,a,b,c,d,e⟩:=h;exact⟨P,K,f,a,b,c,d,e.mono i⟩
 ·obtain⟨P,K,f,a,b,c,d,e⟩:=h;exact⟨P,K,f,a,b,c,d,e.mono i⟩
 ·obtain⟨P,K,f,a,b,c,d,e⟩:=h;exact⟨P,K,f,a,b,c,d,e.mono i⟩
 grind
structure Uz{α:Type}(c:Cd α)(H:Hp)(l:List (Bool×List α))(xs:List BU)(rs:List (Option (Nat×List BU))):Prop where
 len:xs.length=l.length
 eN:rs.length=l.length
 own:∀(i:Nat) (d:List α),l[i]?=Ac (Br,d)->∃ys,rs[i]?=Ac (Ac (d.length,ys))/\AZ c H d ys
 not:∀(i:Nat) (d:List α),l[i]?=Ac (Ap,d)->rs[i]?=Ac C7
theorem Uz.mono{α:Type}{c:Cd α}{a:Hp}(g:H.le a){l:List (Bool×List α)}{xs:List BU}{rs:List (Option (Nat×List BU))}(h:Uz c H l xs rs):Uz c a l xs rs:=
 ⟨h.len,h.eN,λi d f=>by obtain⟨j,b,e⟩:=h.own i d f;exact⟨j,b,e.mono g⟩,h.not⟩
def SR.is(C:List (SV N.T))(η:Nat->BU)(H:Hp)(k:Nat):SR N.T->Av->Prop
 | .Ah g l,r=> ∃B b,η k=ptr B 0/\r= .Ah B (.cells b g (0,0))/\l.is C η H (.agg b)
 | .row g t l,r=> ∃a,r= .row (η k) g (t.sz N) l.length a/\AZ (N.c t) H l a
 | .Cr _,_=>False
 | .gone,_=>False
 | .map g f i l,r=> ∃B,η k= .map (Ac B)/\RA H B g i f l r
 | .Ep g e t h l,r=> ∃a c,r= .Ep (η k) g l.length a e (t.sz N) c/\η h= .tuple a.toArray/\Uz (N.c t) H l a c
end
section
variable{η:Nat->BU}{H:Hp}{T:Nat->Type}{C:List (SV N.T)}{η':Nat->BU}{k:Nat}{r:Av}{s:SV N.T}{v:BU}
theorem SV.BN.mono{g:Nat->BU->Prop}{η:Nat->BU}{H r:Hp}(e:H.le r):∀ {s:SV N.T} {v:BU},s.BN g η H v->s.BN g η r v
 | .d t x,v,⟨o,i,m⟩=>⟨o,(N.c t).mono e i,m⟩
 | .na _,_,h=>h
 | .ct _ _,_,h=>h
 | .cb _ _,_,h=>h
 | .lt _ _ _,_,h=>h
 | .lb _,_,h=>h
 | .raw _,_,h=>h
 | .ud,_,h=>h
 | .no,_,h=>h
 | .loc _ _,_,h=>h
 | .AG _,_,h=>h
 | .DU _ _ _ _ _,_,h=>h
 | .pd t x off,v,⟨b,k,o,i,m,n⟩=>⟨b,k,o,i,(N.c t).mono e m,λj u G=>(n j u G).mono e⟩
 | .mp _,_,h=>h
 | .lf s a l,v,⟨w,A,u,i,m,n,p,D,E⟩=>⟨w,A,u,i,m,SV.BN.mono e n,p,D,SV.BN.mono e E⟩
 | .nl,_,h=>h
 | .t2 a b,v,⟨x,y,i,m,n⟩=>⟨x,y,i,SV.BN.mono e m,SV.BN.mono e n⟩
 | .t3 a b c,v,⟨x,y,z,i,m,n,p⟩=>⟨x,y,z,i,SV.BN.mono e m,SV.BN.mono e n,SV.BN.mono e p⟩
 | .AK f l o,v,⟨q,i,m⟩=>⟨q,i,SV.BN.mono e m⟩
 | .vn,_,h=>h
 | .vc a l,v,⟨u,q,i,m,n⟩=>⟨u,q,i,SV.BN.mono e m,SV.BN.mono e n⟩
 | .px _ _,_,h=>PX.mono e h
 | .Cr _,_,h=>h
theorem SV.is.mono{a:Hp}(b:H.le a)(h:s.is C η H v):s.is C η a v:=SV.BN.imp (λ_ _ ⟨s,e,h⟩=>⟨s,e,SV.BN.mono b h⟩) (SV.BN.mono b h)
theorem SV.BN.env{g:Nat->BU->Prop}{η η':Nat->BU}{H:Hp} :∀ {s:SV N.T} {v:BU},(∀k∈s.AJ,η' k=η k)->s.BN g η H v->s.BN g η' H v
 | .d t x,v,_,h=>h
 | .na _,_,_,h=>h
 | .ct _ _,_,_,h=>h
 | .cb _ _,_,_,h=>h
 | .lt _ _ _,_,_,h=>h
 | .lb _,_,_,h=>h
 | .raw _,_,_,h=>h
 | .ud,_,_,h=>h
 | .no,_,_,h=>h
 | .loc k _,_,e,h=>by grind[SV.BN,SV.AJ]
 | .AG k,_,e,h=>by grind[SV.BN,SV.AJ]
 | .DU k _ _ _ _,_,e,h=>by grind[SV.BN,SV.AJ]
 | .pd t x off,v,_,h=>h
 | .mp k,_,e,h=>by grind[SV.BN,SV.AJ]
 | .lf s a l,v,e,⟨w,A,u,j,m,n,o,E,F⟩=>⟨w,A,u,j,m,SV.BN.env (λk i=>e k (by grind[SV.AJ])) n,o,E,SV.BN.env (λk i=>e k (by grind[SV.AJ])) F⟩
 | .nl,_,_,h=>h
 | .t2 a b,v,e,⟨x,y,j,m,n⟩=>⟨x,y,j,SV.BN.env (λk i=>e k (by grind[SV.AJ])) m,SV.BN.env (λk i=>e k (by grind[SV.AJ])) n⟩
 | .t3 a b c,v,e,⟨x,y,z,j,m,n,o⟩=>⟨x,y,z,j,SV.BN.env (λk i=>e k (by grind[SV.AJ])) m,SV.BN.env (λk i=>e k (by grind[SV.AJ])) n,SV.BN.env (λk i=>e k (by grind[SV.AJ])) o⟩
 | .AK f l M,v,e,⟨r,j,m⟩=>⟨r,by simp_all[SV.AJ],SV.BN.env (λk i=>e k (by grind[SV.AJ])) m⟩
 | .vn,_,_,h=>h
 | .vc a l,v,e,⟨u,r,j,m,n⟩=>⟨u,r,j,SV.BN.env (λk i=>e k (by grind[SV.AJ])) m,SV.BN.env (λk i=>e k (by grind[SV.AJ])) n⟩
 | .px q p,v,e,h=>by have D:q.map η'=q.map η:=Abt λk i=>e k (by trivial);show p.is (q.map η') H v;rw[D];exact h
 | .Cr _,_,_,h=>h
def CP{T:Nat->Type}(C:List (SV T)):List Nat:=C.flatMap SV.AJ
theorem Xa{C:List (SV T)}{j:Nat}{s:SV T}(a:C[j]?=Ac s)(h:k∈s.AJ):k∈CP C:=Aac.2 ⟨s,Aai a,h⟩
theorem SV.is.env(a:∀k∈CP C,η' k=η k)(c:∀k∈s.AJ,η' k=η k)(h:s.is C η H v):s.is C η' H v:=
 SV.BN.imp (λ_ _ ⟨s,e,h⟩=>⟨s,e,SV.BN.env (λk b=>a k (Xa e b)) h⟩) (SV.BN.env c h)
theorem SR.is.mono{i:Hp}(c:H.le i){s:SR N.T}(h:s.is C η H k r):s.is C η i k r:=by
 cases s with
 |Ah g l=>obtain⟨B,m,a,b,d⟩:=h;exact⟨B,m,a,b,d.mono c⟩
 |row g t l=>obtain⟨f,a,b⟩:=h;exact⟨f,a,b.mono c⟩
 |Cr j=>exact h
 |gone=>exact h
 |map g q u l=>obtain⟨B,a,b⟩:=h;exact⟨B,a,b.mono c⟩
 |Ep g e t p l=>obtain⟨f,o,a,b,d⟩:=h;exact⟨f,o,a,b,d.mono c⟩
theorem SR.is.env{s:SR N.T}(c:η' k=η k)(n:∀k∈CP C,η' k=η k)(e:∀k∈s.AJ,η' k=η k)(h:s.is C η H k r):s.is C η' H k r:=by
 cases s with
 |Ah g l=>obtain⟨B,i,a,b,d⟩:=h;exact⟨B,i,c.trans a,b,d.env n e⟩
 |row g t l=>obtain⟨f,a,b⟩:=h;exact⟨f,by grind,b⟩
 |Cr j=>exact h
 |gone=>exact h
 |map g u v l=>obtain⟨B,a,b⟩:=h;exact⟨B,c.trans a,b⟩
 |Ep g q t o l=>obtain⟨f,p,a,b,d⟩:=h;exact⟨f,p,by grind,(e o (by simp[SR.AJ])).trans b,d⟩
structure St(T:Nat->Type)where
 L:List (Nat×SV T)
 O:List (Nat×SR T)
 nk:Nat
structure Bq(T:Nat->Type)where
 sv:SV T
 rd:List Nat
 wr:List (Nat×SR T)
def res{T:Nat->Type}(C:List (SV T)):SV T->SV T
 | .Cr j=>C.getD j .no
 |s=>s
def Ck(C:List (SV T))(L:List (Nat×SV T))(t:Nat):SV T:=match Ax L t with
 |some s=>res C s
 |none=> .no
def ofConst:BU->SV T
 | .bool b=> .lb b
 |v=> .raw v
def Ay(S:Nat->SV T):Dc->SV T
 | .tmp t=>S t
 | .const v=>ofConst v
 | .global _=> .no
 | .func f=> .AK f .vn []
theorem TM(v:BU):(ofConst (T:=N.T) v).is C η H v:=by unfold ofConst;split<;>simp[SV.is,SV.BN]
theorem Eu{C:List (SV N.T)}{η:Nat->BU}{H:Hp}{s:SV N.T}{v:BU}(h:s.is C η H v):(res C s).is C η H v:=by
 unfold res;split;· obtain⟨s,e,h⟩:=h;rw[IS,e];exact SV.BN.imp (λ_ _ h=>h.elim) h
 omega
theorem aQ{S:Nat->SV N.T}{a:Act}{x:Dc}(h:∀t,x= .tmp t->(S t).is C η H (a.tmps.getD t undef)):(Ay S x).is C η H (a.eval x):=by
 cases x with
 |tmp t=>exact h t rfl
 |const v=>exact TM v
 |global g=>trivial
 |func f=>exact⟨[],rfl,rfl⟩
end
end
section
variable{k:Nat}{Y:List (Nat×Av)}{r x:Av}
def keys{α:Type}(Y:List (Nat×α)):List Nat:=Y.map (·.1)
theorem A2{α:Type}{Y:List (Nat×α)}{k:Nat}{x:α}(h:Ax Y k=Ac x):(k,x)∈Y:=by
 induction Y with
 |nil=>cases h
 |cons p Y b=>
  grind[Ax,Nat.eq_of_beq_eq_true,List.mem_cons_of_mem]
theorem Cy{α:Type}{Y:List (Nat×α)}{k:Nat}(h:k∉keys Y):Ax Y k=C7:=by
 cases a:Ax Y k with
 |none=>rfl
 |some x=>exact absurd (By.2 ⟨_,A2 a,rfl⟩) h
theorem Dd{α:Type}{Y:List (Nat×α)}{k:Nat}{x:α}(h:Ax Y k=Ac x):k∈keys Y:=By.2 ⟨_,A2 h,rfl⟩
theorem Dg{α:Type}{Y:List (Nat×α)}(h:k∈keys Y):∃x,Ax Y k=Ac x:=by
 induction Y with
 |nil=>cases h
 |cons p Y b=>
  obtain⟨q,y⟩:=p;simp only[keys,Aap,Aay]at h;simp only[Ax];cases a:Nat.beq q k with
  |true=>simp
  |false=>
   rcases h with e|h;· simp_all
   ·exact b h
theorem CF{α:Type}{Y:List (Nat×α)}(b:(keys Y).Nodup){k:Nat}{x:α}(h:(k,x)∈Y):Ax Y k=Ac x:=by
 induction Y with
 |nil=>grind
 |cons p Y f=>
  obtain⟨q,y⟩:=p;simp only[keys,Aap,Abl]at b;simp only[Ax];rcases Aay.1 h with e|h;· simp_all
  ·have:Nat.beq q k=Ap:=by
    grind[Nat.beq,absurd,Nat.eq_of_beq_eq_true]
   rw[this];exact f b.2 h
theorem BQ{α:Type}(A B:List (Nat×α))(k:Nat):Ax (A++B) k=match Ax A k with|some x=>Ac x|none=>Ax B k:=by
 induction A with
 |nil=>rfl
 |cons p A a=>
  grind[Ax]
theorem DV{α:Type}(k:Nat)(v:α)(l:List (Nat×α)):Ax ((k,v)::l) k=Ac v:=by simp[Ax]
theorem A6{α:Type}{q k:Nat}(h:q≠k)(v:α)(l:List (Nat×α)):Ax ((q,v)::l) k=Ax l k:=by grind[Nat.beq,absurd,Ax,Nat.eq_of_beq_eq_true]
def H7(Y:List (Nat×Av))(k:Nat)(r:Av):List (Nat×Av):=Y.map λp=>(p.1,match Nat.beq p.1 k with|true=>r|false=>p.2)
theorem En(Y:List (Nat×Av))(k:Nat)(r:Av):keys (H7 Y k r)=keys Y:=by simp[keys,H7]
theorem QN(h:Ax Y k=Ac x):Ax (H7 Y k r) k=Ac r:=by
 induction Y with
 |nil=>cases h
 |cons p Y b=>
  grind[H7,Ax,Nat.beq]
theorem Pa{j:Nat}(h:j≠k):Ax (H7 Y k r) j=Ax Y j:=by
 induction Y with
 |nil=>rfl
 |cons p Y b=>
  grind[H7,Ax,Nat.beq,absurd,Nat.eq_of_beq_eq_true]
theorem Iz(Of:List Av)(c:(keys Y).Nodup)(h:Ax Y k=Ac x):∃i,(Y.map (·.2)++Of)[i]?=Ac x/\∀r,(Y.map (·.2)++Of).set i r=(H7 Y k r).map (·.2)++Of:=by
 induction Y with
 |nil=>cases h
 |cons p Y g=>
  obtain⟨q,y⟩:=p;simp only[Ax]at h;simp only[keys,Aap,Abl]at c;cases a:Nat.beq q k with
  |true=>
   rw[a]at h;cases h;have:=AI a;refine⟨0,rfl,λr=>?_⟩;simp only[Aap,Adt,Aij,H7,Agz];grind[Nat.beq,absurd,List.map_map,List.map_congr_left,Nat.eq_of_beq_eq_true]
  |false=>
   rw[a]at h;obtain⟨i,d,e⟩:=g c.2 h;refine⟨i+1,by simpa using d,λr=>?_⟩;grind[H7]
end
section
variable {N : C6} {C : List (SV N.T)}
section
variable{P:Ge}{S:Nat->SV N.T}{R:Nat->Option (SR N.T)}{o:J5}{k:Nat}
def Dy(C:List (SV N.T))(η:Nat->BU)(H:Hp)(Y:List (Nat×Av))(k:Nat)(a:SR N.T):Prop:=a= .gone\/∃x,Ax Y k=Ac x/\a.is C η H k x
def Ao(P:Ge)(C:List (SV N.T))(S:Nat->SV N.T)(R:Nat->Option (SR N.T))(o:J5)(s:Bq N.T):Prop:= ∀(η:Nat->BU) (H:Hp) (g:List Av) (a:Act) (w:GD) (Y:List (Nat×Av)),(keys Y).Nodup->SH w H (Y.map (·.2)++g)->N.inv H->(∀x∈o.op.operands,(Ay S x).is C η H (a.eval x))->(∀k,(k∈s.rd\/k∈keys s.wr)->∀e,R k=Ac e->Dy C η H Y k e)->(∀k∈keys s.wr,R k=C7->k∉keys Y)->∀(K:Act->GD->Prop) (Q:Exit->Act->GD->Prop),(∀(v:BU) (h:GD) (f:Hp) (c:Nat->BU) (d:List (Nat×Av)),H.le f->(∀k,(R k=C7->k∉keys s.wr)->c k=η k)->(∀k,k∉keys s.wr->Ax d k=Ax Y k)->(∀k e,Ax s.wr k=Ac e->Dy C c f d k e)->(keys d).Nodup->(∀k∈keys d,k∈keys Y\/k∈keys s.wr)->SH h f (d.map (·.2)++g)->s.sv.is C c f v->K (a.put o.dst v) h)->o.wp P a w K Q
abbrev EV(a:Act):Dc->Option BU:=λx=>Ac (a.eval x)
theorem Abw{sv:SV N.T}{m:List Nat}
  (h:∀(η:Nat->BU) (H:Hp) (O:List Av) (a:Act),(∀x∈o.op.operands,(Ay S x).is C η H (a.eval x))->(∀k∈m,∀b,R k=Ac b->b= .gone\/∃(x:Av) (i:Nat),O[i]?=Ac x/\b.is C η H k x)->∃v,Aq P o.op o.type (EV a) H O v/\sv.is C η H v):
  Ao P C S R o ⟨sv,m,[]⟩:=by
 intro η H g a w Y j l B z y _ K Q t;obtain⟨v,r,s⟩:=h η H (Y.map (·.2)++g) a z λk c b d=>(y k (.inl c) b d).imp id λ⟨x,n,p⟩=>by obtain⟨i,q,_⟩:=Iz g j n;grind
 refine Afq (r a w o rfl rfl (λx u e=>by grind) l) l λA f=>?_;exact t v A H η Y (Hp.le.refl H) (λ_ _=>rfl) (λ_ _=>rfl) (λk b h=>by cases h) j (λk c=> .inl c) f s
theorem Agr{sv:SV N.T}{t:List Nat}{g y:SR N.T}(J:R k=Ac g)(h0:g≠ .gone)
  (h:∀(η:Nat->BU) (H:Hp) (O:List Av) (a:Act) (x:Av) (i:Nat),(∀x∈o.op.operands,(Ay S x).is C η H (a.eval x))->O[i]?=Ac x->g.is C η H k x->(∀k∈t,∀c,R k=Ac c->c= .gone\/∃(x:Av) (i:Nat),O[i]?=Ac x/\c.is C η H k x)->
   ∃f,y.is C η H k f/\BJ P o.op o.type (EV a) H O (λv l q=>l=H/\q=O.set i f/\sv.is C η H v)):
  Ao P C S R o ⟨sv,t,[(k,y)]⟩:=by
 intro η H m a w Y n M hi T s _ K Q G;rcases s k (.inr (by simp[keys])) g J with e|⟨x,r,D⟩;· trivial
 obtain⟨i,E,F⟩:=Iz m n r;obtain⟨f,U,V⟩:=h η H (Y.map (·.2)++m) a x i T E D λj b c p=>(s j (.inl b) c p).imp id λ⟨x,W,X⟩=>by obtain⟨i,Z,_⟩:=Iz m n W;exact⟨x,i,Z,X⟩
 refine V a w o K Q rfl rfl (λx u e=>by simpa using e) M λv w' l q L ⟨z,A,B⟩ d=>?_;subst z;subst A;rw[F]at d;refine G v w' l η (H7 Y k f) (Hp.le.refl _) (λ_ _=>rfl) (λj b=>Pa λe=>b (by subst e;simp[keys])) (λj c b=>?_) (by rw[En];exact n) (λj b=> .inl (by rw[En]at b;exact b)) d B;simp only[Ax]at b;split at b;· rename_i I;have:=AI I;subst this;cases b;exact .inr ⟨f,QN r,U⟩
 grind
def El(η:Nat->BU)(k:Nat)(v:BU):Nat->BU:=λj=>match Nat.beq j k with
 |true=>v
 |false=>η j
theorem AB(η:Nat->BU)(k:Nat)(v:BU):El η k v k=v:=by simp[El]
theorem Gw{η:Nat->BU}{j:Nat}{v:BU}(h:j≠k):El η k v j=η j:=by grind[El,Nat.beq,absurd,Nat.eq_of_beq_eq_true]
theorem Afv{sv:SV N.T}{y:List Nat}{z:SR N.T}(s:R k=C7)
  (h:∀(η:Nat->BU) (H:Hp) (O:List Av) (a:Act),(∀x∈o.op.operands,(Ay S x).is C η H (a.eval x))->(∀k∈y,∀f,R k=Ac f->f= .gone\/∃(x:Av) (i:Nat),O[i]?=Ac x/\f.is C η H k x)->
   BJ P o.op o.type (EV a) H O (λv l q=>l=H/\∃g b,q=g::O/\z.is C (El η k b) H k g/\sv.is C (El η k b) H v)):
  Ao P C S R o ⟨sv,y,[(k,z)]⟩:=by
 intro η H r a w Y t L X M J d K Q F;have m:=d k (by simp[keys]) s;refine h η H (Y.map (·.2)++r) a M (λj c f n=>(J j (.inl c) f n).imp id λ⟨x,T,U⟩=>by obtain⟨i,V,_⟩:=Iz r t T;grind) a w o K Q rfl rfl (λx u e=>by grind) L λv W l q I ⟨A,g,b,B,D,E⟩ p=>?_;subst A;subst B;refine F v W l (El η k b) ((k,g)::Y) (Hp.le.refl _) (λj c=>Gw λe=>?_) (λj c=>A6 (λe=>c (by subst e;simp[keys])) _ _) (λj f c=>?_) (Abl.2 ⟨m,t⟩) (λj c=>?_) p E;· subst e;exact c s (by simp[keys])
 ·simp only[Ax]at c;split at c;· rename_i G;have:=AI G;subst this;cases c;exact .inr ⟨g,DV _ _ _,D⟩
  ·cases c
 grind[keys]
end
end
def S8(P:Ge)(t:Ee)(n:Nat):Bool:=match P.info? t with
 |some i=>Nat.beq i.size n&&i.zero.isSome
 |none=>Ap
theorem Eb{P:Ge}{t:Ee}{n:Nat}(h:S8 P t n=Br):∃bytes z,TI P t n bytes z:=by
 unfold S8 at h;split at h;· rename_i i a;simp only[AS]at h;obtain⟨z,b⟩:=Abr.1 h.2;exact⟨i.bytes,z,i,a,AI h.1,rfl,b⟩
 grind
def qt(k:Kj)(n:Int):Bool:=match k with
 | .i64=>Br
 | .u8=>decide (0<=n)&&decide (n<=255)
 |k=>decide (k.min<=n)&&decide (n<=k.max)
theorem aI{k:Kj}{n:Int}(h:qt k n=Br):T9 k n:=by cases k<;>simp_all [qt,T9]
def Yv:List BU->Bool
 | .int .u64 a:: .int .u64 b:: .int .u64 c:: .int .u64 d::_=>decide (a=0)&&decide (b=0)&&decide (c=0)&&decide (d=0)
 |_=>Ap
def P6(T:Nat->Type)(a b:Ty):Option (a.den T->b.den T):=if h:a.Kw b=Br then Ac (V8 h)else C7
theorem Bw{T:Nat->Type}{a b:Ty}{f:a.den T->b.den T}(h:P6 T a b=Ac f):∃h:a.Kw b=Br,f=V8 h:=by grind[P6]
def rep{α:Type}(p:List BU->Option (α×List BU)):Nat->List BU->Option (List α×List BU)
 |0,a=>Ac ([],a)
 |n+1,a=>match p a with
  |some (x,r)=>match rep p n r with
   |some (l,r)=>Ac (x::l,r)
   |none=>C7
  |none=>C7
section
variable (N : C6)
def parse:Nat->(t:Ty)->List BU->Option (t.den N.T×List BU)
 |0,_,_=>C7
 |d+1,t,c=>match t with
  | .int k=>match c with
   | .int e n::r=>match kb k e&&qt k n with
    |true=>Ac (n,r)
    |false=>C7
   |_=>C7
  | .bool=>match c with
   | .bool b::r=>Ac (b,r)
   |_=>C7
  | .str=>match c with
   | .string s::r=>Ac (s.data.toList,r)
   |_=>C7
  | .sl _=>match c with
   | .slice C7 0 0::r=>Ac ([],r)
   |_=>C7
  | .st a=>parse d a c
  | .pr a b=>match parse d a c with
   |some (x,r)=>match parse d b r with
    |some (y,r)=>Ac ((x,y),r)
    |none=>C7
   |none=>C7
  | .un=>Ac ((),c)
  | .bs=>match Yv c with
   |true=>Ac (λ_=>Ap,c.drop 4)
   |false=>C7
  | .nm i=>match parse d (N.body i) c with
   |some (x,r)=>Ac (N.vE i x,r)
   |none=>C7
  | .ar n a=>rep (parse d a) n c
def EW:Nat->(t:Ty)->t.den N.T->Nat->(ty:Ty)->Option (ty.den N.T)
 |0,_,_,_,_=>C7
 |c+1,t,x,off,ty=>
  match P6 N.T t ty with
  |some f=>(match Nat.beq off 0 with
   |true=>Ac (f x)
   |false=>C7)
  |none=>match t,x with
   | .st a,x=>EW c a x off ty
   | .pr a b,x=>match Nat.blt off (a.sz N)with
    |true=>EW c a x.1 off ty
    |false=>EW c b x.2 (off-a.sz N) ty
   | .nm i,x=>EW c (N.body i) (N.out i x) off ty
   | .ar _ a,x=>match(show List (a.den N.T)from x)[off/a.sz N]? with
    |some y=>EW c a y (off %a.sz N) ty
    |none=>C7
   |_,_=>C7
def setAt:Nat->(t:Ty)->t.den N.T->Nat->(ty:Ty)->ty.den N.T->Option (t.den N.T)
 |0,_,_,_,_,_=>C7
 |c+1,t,x,off,ty,y=>
  match P6 N.T ty t with
  |some f=>(match Nat.beq off 0 with
   |true=>Ac (f y)
   |false=>C7)
  |none=>match t,x with
   | .st a,x=>setAt c a x off ty y
   | .pr a b,x=>match Nat.blt off (a.sz N)with
    |true=>(setAt c a x.1 off ty y).map λz=>(z,x.2)
    |false=>(setAt c b x.2 (off-a.sz N) ty y).map λz=>(x.1,z)
   | .nm i,x=>(setAt c (N.body i) (N.out i x) off ty y).map (N.vE i)
   | .ar _ a,x=>match(show List (a.den N.T)from x)[off/a.sz N]? with
    |some z=>(setAt c a z (off %a.sz N) ty y).map λz=>List.set (show List (a.den N.T)from x) (off/a.sz N) z
    |none=>C7
   |_,_=>C7
def dP:(t:Ty)->SV N.T->Option (t.den N.T)
 |t, .d a x=>(P6 N.T a t).map (· x)
 | .int .i64, .na n=>Ac (n:Int)
 | .int .i64, .ct _ n=>Ac (n:Int)
 | .int .i64, .cb _ n=>Ac (n:Int)
 | .bool, .lb b=>Ac b
 | .bool, .lt _ n m=>Ac (decide ((n:Int)<(m:Int)))
 |t, .px _ (.dx a l)=>(P6 N.T (.sl a) t).map λf=>f l
 |t, .raw v=>match parse N 16 t v.cells.toList with
  |some (x,[])=>(match t.agg,v with
   |true, .agg _=>Ac x
   |true,_=>C7
   |false, .agg _=>C7
   |false,_=>Ac x)
  |_=>C7
 |_,_=>C7
variable {N}
section
variable{cs:List BU}
theorem Yu(h:Yv cs=Br):cs=(NN (λ_=>Ap)).toList++cs.drop 4:=by
 unfold Yv at h;split at h
 ·simp only[AS,decide_eq_true_eq]at h;obtain⟨⟨⟨rfl,rfl⟩,rfl⟩,rfl⟩:=h;have b:∀i,word (λ_=>Ap) i=0#64:=λi=>by
   apply Ame;grind[GW]
  have:(NN (λ_=>Ap)).toList=[KP (word (λ_=>Ap) 0),KP (word (λ_=>Ap) 1),KP (word (λ_=>Ap) 2),KP (word (λ_=>Ap) 3)]:=rfl;rw[this,b,b,b,b];rfl
 grind
theorem CD{H:Hp} :∀ {fu:Nat} {t:Ty} {cs r:List BU} {x:t.den N.T},parse N fu t cs=Ac (x,r)->∃pre,cs=pre++r/\(N.c t).BI H x pre
 |0,_,_,_,_,h=>by cases h
 |fu+1, .int k,cs,r,x,h=>by
  simp only[parse]at h;split at h
  ·split at h;· rename_i o;simp only[AS]at o;cases h;have:=OB o.1;subst this;exact⟨[_],rfl,DL.2 ⟨rfl,aI o.2⟩⟩
   grind
  grind
 |fu+1, .bool,cs,r,x,h=>by
  simp only[parse]at h;split at h;· cases h;exact⟨[_],rfl,rfl⟩
  grind
 |fu+1, .str,cs,r,x,h=>by
  simp only[parse]at h;split at h;· cases h;exact⟨[_],rfl,rfl⟩
  grind
 |fu+1, .sl _,cs,r,x,h=>by
  simp only[parse]at h;split at h;· cases h;exact⟨[_],rfl,_,rfl,GI.nil⟩
  grind
 |fu+1, .st a,cs,r,x,h=>CD (fu:=fu) (t:=a) (by trivial)
 |fu+1, .pr a b,cs,r,x,h=>by
  simp only[parse]at h;split at h
  ·rename_i y u f;split at h;· rename_i z s j;cases h;obtain⟨p,rfl,c⟩:=CD (H:=H) f;obtain⟨q,rfl,d⟩:=CD (H:=H) j;exact⟨p++q,by simp,p,q,rfl,c,d⟩
   grind
  grind
 |fu+1, .un,cs,r,x,h=>by cases h;exact⟨[],rfl,rfl⟩
 |fu+1, .bs,cs,r,x,h=>by
  simp only[parse]at h;split at h;· rename_i B;cases h;exact⟨_,Yu B,rfl⟩
  grind
 |fu+1, .nm i,cs,r,x,h=>by
  simp only[parse]at h;split at h;· rename_i y u f;cases h;obtain⟨p,e,c⟩:=CD (H:=H) f;exact⟨p,e,N.lay.2 (by rw[N.LF];omega)⟩
  grind
 |fu+1, .ar n a,cs,r,x,h=>by
  have key:∀(m:Nat) (cs:List BU) (l:List (a.den N.T)) (r:List BU),rep (parse N fu a) m cs=Ac (l,r)->∃pre,cs=pre++r/\l.length=m/\AZ (N.c a) H l pre:=by
   intro m;induction m with
   |zero=>intro cs l r h;cases h;exact⟨[],rfl,rfl,rfl⟩
   |succ m C=>
    intro cs l r h;simp only[rep]at h;split at h
    ·rename_i y u f;split at h;· rename_i D s j;cases h;obtain⟨q,w,A⟩:=CD (H:=H) f;obtain⟨p,c,d,g⟩:=C _ _ _ j;exact⟨q++p,by rw[w,c];simp,by simp[d],q,p,rfl,A,g⟩
     ·cases h
    grind
  obtain⟨p,c,d,g⟩:=key _ _ _ _ h;exact⟨p,c,d,g⟩
theorem C1{H:Hp} :∀ {fu:Nat} {t:Ty} {x:t.den N.T} {off:Nat} {ty:Ty} {y:ty.den N.T} {cs:List BU},EW N fu t x off ty=Ac y->(N.c t).BI H x cs->(N.c ty).BI H y ((cs.drop off).take (ty.sz N))/\off+ty.sz N<=cs.length
 |0,_,_,_,_,_,_,h,_=>by cases h
 |fu+1,t,x,off,ty,y,cs,h,g=>by
  unfold EW at h;split at h
  ·rename_i f D;obtain⟨C,rfl⟩:=Bw D;split at h;· rename_i n;have:=AI n;have o:=OT C g;grind[Bb,List.take_length]
   grind
  ·cases t with
   |st a=>exact C1 (t:=a) h g
   |pr a b=>
    obtain⟨G,I,rfl,k,e⟩:=g;have z:=Bb k;cases c:Nat.blt off (a.sz N)with
    |true=>
     simp only[c]at h
     obtain⟨d,r⟩:=C1 (t:=a) h k;grind
    |false=>
     simp only[c]at h;have c:¬off<a.sz N:=λE=>by rw[show Nat.blt off (a.sz N)=Br by simpa using E]at c;grind
     obtain⟨d,r⟩:=C1 (t:=b) h e;grind[List.drop_append,List.drop_of_length_le]
   |nm i=>exact C1 (t:=N.body i) h (N.lay.1 g)
   |ar m a=>
    simp only at h;split at h
    ·rename_i L q;obtain⟨k,e⟩:x.length=m/\AZ (N.c a) H x cs:=g;obtain⟨w,s,_,u⟩:=e.get q;obtain⟨d,r⟩:=C1 (t:=a) h s;have p:=Bb s
     have l:cs.length=x.length*a.sz N:=by rw[e.len,Bk]
     have F:=(No.1 q).1;have B:=Ahc off (a.sz N);rw[Bk]at u;have K:a.sz N*(off/a.sz N)+a.sz N<=cs.length:=by rw[l,Acw,<-Aej];exact Abj _ F
     refine⟨?_,by omega⟩;rw[u,Ahl,Ahi,Adi,Adl (by omega)]at d;rw[show off/a.sz N*a.sz N+off %a.sz N=off by rw[Acw];exact B]at d;exact d
    grind
   |_=>cases h
theorem nZ{vs:List BU}{p s r:Nat}(h:p+s<=cs.length)(k:r+vs.length<=s):CG cs p (CG ((cs.drop p).take s) r vs)=CG cs (p+r) vs:=by
 have e:((cs.drop p).take s).drop (r+vs.length)=(cs.drop (p+(r+vs.length))).take (s-(r+vs.length)):=by rw[Ahl,Adi]
 have c:(CG ((cs.drop p).take s) r vs).length=s:=by grind[CG]
 have f:cs.drop (p+(r+vs.length))=(cs.drop (p+(r+vs.length))).take (s-(r+vs.length))++cs.drop (p+s):=by
  conv=>lhs;rw[<-Ace (s-(r+vs.length)) (cs.drop (p+(r+vs.length)))]
  grind[List.drop_drop]
 grind[CG]
theorem Eo{H:Hp} :∀ {fu:Nat} {t:Ty} {x z:t.den N.T} {off:Nat} {ty:Ty} {y:ty.den N.T} {cs vs:List BU},setAt N fu t x off ty y=Ac z->(N.c t).BI H x cs->(N.c ty).BI H y vs->(N.c t).BI H z (CG cs off vs)/\off+vs.length<=cs.length
 |0,_,_,_,_,_,_,_,_,h,_,_=>by cases h
 |fu+1,t,x,z,off,ty,y,cs,vs,h,n,j=>by
  unfold setAt at h;split at h
  ·rename_i f L;obtain⟨K,rfl⟩:=Bw L;split at h;· rename_i I;have:=AI I;subst this;have A:=OT K j;have v:=Bb A;grind[CG,Bb]
   grind
  ·cases t with
   |st a=>exact Eo (t:=a) h n j
   |pr a b=>
    obtain⟨q,u,rfl,l,c⟩:=n;have v:=Bb l;cases d:Nat.blt off (a.sz N)with
    |true=>
     simp only[d]at h
     obtain⟨w,e,rfl⟩:=Pe.1 h;obtain⟨g,p⟩:=Eo (t:=a) e l j;refine⟨⟨CG q off vs,u,?_,g,c⟩,by grind⟩;grind[CG]
    |false=>
     simp only[d]at h;have d:¬off<a.sz N:=λM=>by rw[show Nat.blt off (a.sz N)=Br by simpa using M]at d;grind
     obtain⟨w,e,rfl⟩:=Pe.1 h;obtain⟨g,p⟩:=Eo (t:=b) e c j;refine⟨⟨q,CG u (off-a.sz N) vs,?_,l,g⟩,by grind⟩;unfold CG;rw[<-v,Aed,Abm (by omega),Acu,Abf (by omega:q.length<=off+vs.length)];grind
   |ar m a=>
    simp only at h;split at h
    ·rename_i P o;change List (a.den N.T)at x;obtain⟨w,e,rfl⟩:=Pe.1 h;obtain⟨l,c⟩:x.length=m/\AZ (N.c a) H x cs:=n;obtain⟨F,D,_,E⟩:=c.get o;obtain⟨g,p⟩:=Eo (t:=a) e D j;have C:=Bb D;have B:=(No.1 o).1;have r:cs.length=x.length*a.sz N:=by rw[c.len,Bk]
     have J:=Ahc off (a.sz N);have s:=c.set B g;rw[Bk]at E s;have O:a.sz N*(off/a.sz N)+a.sz N<=cs.length:=by rw[r,Acw,<-Aej];exact Abj _ B
     rw[E,nZ (by rw[Acw];exact O) (by omega),show off/a.sz N*a.sz N+off %a.sz N=off by rw[Acw];exact J]at s;exact⟨⟨by rw[Acn];exact l,s⟩,by omega⟩
    ·cases h
   |nm i=>
    obtain⟨w,e,rfl⟩:=Pe.1 h;obtain⟨g,p⟩:=Eo (t:=N.body i) e (N.lay.1 n) j;exact⟨N.lay.2 (by rw[N.LF];exact g),p⟩
   |_=>cases h
theorem IP{C:List (SV N.T)}{t:Ty}{s:SV N.T}{x:t.den N.T}{η:Nat->BU}{H:Hp}{v:BU}(h:dP N t s=Ac x)(a:s.is C η H v):(SV.d t x).is C η H v:=by
 unfold dP at h;split at h;· obtain⟨f,d,rfl⟩:=Pe.1 h;obtain⟨c,rfl⟩:=Bw d;have e:=Adx c;subst e;exact a
 ·cases h;exact⟨[_],rfl,by rw[a.1];rfl⟩
 ·cases h;exact⟨[_],rfl,by rw[a.1];rfl⟩
 ·cases h;exact⟨[_],rfl,by rw[a.1];rfl⟩
 ·cases h;exact⟨[_],rfl,by rw[show v=_ from a];rfl⟩
 ·cases h;exact⟨[_],rfl,by rw[a.1];rfl⟩
 ·obtain⟨f,d,rfl⟩:=Pe.1 h;obtain⟨c,rfl⟩:=Bw d;have e:=Adx c;subst e;exact a.2
 ·rw[<-a]at h;split at h;· rename_i y j;obtain⟨p,e,g⟩:=CD (H:=H) j;rw[Adc]at e;cases b:t.agg with
   |true=>
    rw[b]at h;cases v with
    |agg i=>cases h;exact⟨p,g,by unfold Cu;rw[b];rw[<-e];rfl⟩
    |_=>grind
   |false=>
    rw[b]at h;cases v with
    |agg i=>grind
    |_=>cases h;exact⟨p,g,by unfold Cu;rw[b];rw[<-e];rfl⟩
  grind
 grind
end
end
def Pw{T:Nat->Type} :SV T->Bool
 | .na _| .lb _| .loc _ _| .AG _| .mp _| .AK _ _ _=>Br
 | .raw v=>v.oneCell'
 | .px _ .sf=>Br
 |_=>Ap
section
variable (N : C6)
def Sh:Nat->SV N.T->Nat->Option (SV N.T)
 |0,_,_=>C7
 |a+1,l,n=>match Nat.beq n 0 with
  |true=>Ac l
  |false=>match l with
   | .lf s _ l=>match Nat.ble s n with
    |true=>Sh a l (n-s)
    |false=>C7
   |_=>C7
def JS(
     C:List (SV N.T)):Nat->(ty:Ty)->SV N.T->Option (ty.den N.T×SV N.T)
 |0,_,_=>C7
 |c+1,ty,l=>match(match l with
   | .lf s a r=>match Nat.beq s (ty.sz N)with
    |true=>(dP N ty (res C a)).map λx=>(x,r)
    |false=>C7
   |_=>C7)with
  |some p=>Ac p
  |none=>match ty with
   | .st t=>JS C c t l
   | .pr a b=>match JS C c a l with
    |some (x,l)=>match JS C c b l with
     |some (y,l)=>Ac ((x,y),l)
     |none=>C7
    |none=>C7
   | .nm i=>(JS C c (N.body i) l).map λp=>(N.vE i p.1,p.2)
   |_=>C7
def Ez(C:List (SV N.T)):SV N.T->Nat->Option Ty->Option (SV N.T)
 | .lf s a l,off,b=>match Nat.blt off s with
  |true=>match Nat.beq off 0&&(Nat.beq s 1&&Pw (res C a))with
   |true=>Ac (res C a)
   |false=>match b with
    |none=>C7
    |some c=>match(match res C a with
      | .d t x=>EW N 16 t x off c
      |_=>C7)with
     |some y=>Ac (.d c y)
     |none=>match Nat.beq off 0 with
      |true=>(JS N C 16 c (.lf s a l)).map λp=> .d c p.1
      |false=>C7
  |false=>Ez C l (off-s) b
 |_,_,_=>C7
def dL(C:List (SV N.T)):Nat->SV N.T->Nat->Nat->SV N.T->Option (SV N.T)
 |0,_,_,_,_=>C7
 |e+1,l,off,c,b=>match l with
  | .lf s a l=>match Nat.blt off s with
   |true=>match Nat.beq off 0&&Nat.ble s c with
    |true=>(Sh N 64 l (c-s)).map (.lf c b)
    |false=>match res C a with
     | .d (.st t) x=>dL C e (.lf s (.d t x) l) off c b
     | .d (.pr t u) x=>dL C e (.lf (t.sz N) (.d t x.1) (.lf (u.sz N) (.d u x.2) l)) off c b
     | .d (.nm i) x=>dL C e (.lf s (.d (N.body i) (N.out i x)) l) off c b
     | .d (.ar m t) x=>match Nat.beq (off %t.sz N) 0&&(Nat.beq c (t.sz N)&&Nat.blt 0 (t.sz N)),dP N t b,(show List (t.den N.T)from x)[off/t.sz N]? with
      |true,Ac y,Ac _=>Ac (.lf s (.d (.ar m t) (show(Ty.ar m t).den N.T from(show List (t.den N.T)from x).set (off/t.sz N) y)) l)
      |_,_,_=>C7
     |_=>C7
   |false=>(dL C e l (off-s) c b).map (.lf s a)
  |_=>C7
def toL:SV N.T->Option (SV N.T)
 | .lf s a l=>Ac (.lf s a l)
 | .nl=>Ac .nl
 | .d t x=>Ac (.lf (t.sz N) (.d t x) .nl)
 | .ct _ n| .cb _ n=>Ac (.lf 1 (.na n) .nl)
 | .lt _ n m=>Ac (.lf 1 (.d .bool (decide ((n:Int)<(m:Int)))) .nl)
 |s=>match Pw s with
  |true=>Ac (.lf 1 s .nl)
  |false=>C7
variable {N} {C : List (SV N.T)}
section
variable{η:Nat->BU}{H:Hp}{l:SV N.T}{t:Ty}{x:t.den N.T}{cs:List BU}
theorem Mw{s:SV N.T}{η:Nat->BU}{H:Hp}{v:BU}(h:Pw s=Br)(a:s.is C η H v):v.oneCell'=Br:=by
 cases s<;>simp only[Pw]at h<;>first|grind|skip
 ·rw[a.1];rfl
 ·rw[show v=_ from a];rfl
 ·rw[show v=_ from a];omega
 ·obtain⟨B,_,rfl⟩:=a;rfl
 ·exact a.2
 ·exact a.2
 ·obtain⟨c,rfl,_⟩:=a;rfl
 ·rename_i b p;cases p with
  |sf=>
   rcases a with rfl|⟨_,_,rfl⟩<;>rfl
  |_=>grind
theorem A'{v:BU}(h:v.oneCell'=Br):v.cells.toList=[v]:=qR h
theorem C3{t:Ty}{x:t.den N.T}{η:Nat->BU}{H:Hp}{v:BU}(h:(SV.d t x).is C η H v):(N.c t).BI H x v.cells.toList/\∀u∈v.cells.toList,u.oneCell'=Br:=by obtain⟨e,b,a⟩:=h;have c:=(N.c t).one b;grind[Cu,BU.cells,A']
theorem EF(h:(N.c t).BI H x cs):∃u,(SV.d t x).is C η H u/\u.cells.toList=cs:=by
 cases a:t.agg with
 |true=>exact⟨.agg cs.toArray,⟨cs,h,by grind[Cu]⟩,by rfl⟩
 |false=>
  have d:t.sz N=1:=by cases t<;>simp_all [Ty.agg,Ty.sz]
  have b:=Bb h;rw[d]at b;obtain⟨v,rfl⟩:=Aew.1 b;exact⟨v,⟨[v],h,by grind[Cu]⟩,A' ((N.c t).one h v (by simp))⟩
theorem K1{s:Nat}{a l:SV N.T}{η:Nat->BU}{H:Hp}{u:BU}{c2:List BU}(h:a.is C η H u)(d:u.cells.toList.length=s)(c:∀x∈u.cells.toList,x.oneCell'=Br)(k:l.is C η H (.agg c2.toArray)):(SV.lf s a l).is C η H (.agg (u.cells.toList++c2).toArray):=
 ⟨u.cells.toList,c2,u,rfl,d,h,rfl,c,k⟩
theorem TW{b c2:List BU}(h:(N.c t).BI H x b)(k:l.is C η H (.agg c2.toArray)):(SV.lf (t.sz N) (.d t x) l).is C η H (.agg (b++c2).toArray):=by obtain⟨u,c,e⟩:=EF (C:=C) (η:=η) h;grind[K1,Bb,C3]
theorem ZE:(SV.nl:SV N.T).is C η H (.agg ([]:List BU).toArray):=rfl
theorem Fj{s:Nat}{a:SV N.T}(h:(SV.lf s a l).is C η H (.agg cs.toArray)):∃b c2 u,cs=b++c2/\b.length=s/\a.is C η H u/\u.cells.toList=b/\(∀x∈b,x.oneCell'=Br)/\l.is C η H (.agg c2.toArray):=by obtain⟨b,c2,u,c,d⟩:=h;refine⟨b,c2,u,?_,d⟩;grind
theorem nO{s:SV N.T}{v:BU}(h:toL N s=Ac l)(a:s.is C η H v):l.is C η H (.agg v.cells):=by
 have one:∀ {s:SV N.T},s.is C η H v->v.oneCell'=Br->(SV.lf 1 s .nl).is C η H (.agg v.cells):=λ{s} a c=>by have:=K1 (s:=1) a (by grind[A']) (by grind[A']) ZE;simp_all
 have gen:∀ {s:SV N.T},s.is C η H v->Pw s=Br->(SV.lf 1 s .nl).is C η H (.agg v.cells):=λa b=>one a (Mw b a);unfold toL at h;split at h;· cases h;obtain⟨g,c2,u,rfl,e⟩:=a;exact⟨g,c2,u,rfl,e⟩
 ·cases h;rw[show v=_ from a];rfl
 ·obtain⟨i,e⟩:=C3 a;have:=TW (C:=C) (η:=η) (c2:=[]) i ZE;simp_all
 ·cases h;exact one (s:= .na _) a (by rw[a.1];rfl)
 ·cases h;exact one (s:= .na _) ⟨a.1,Agy a.2⟩ (by rw[a.1];rfl)
 ·cases h;exact one (s:= .d .bool _) ⟨[_],rfl,by rw[a.1];rfl⟩ (by rw[a.1];rfl)
 grind
theorem MY{η:Nat->BU}{H:Hp} :∀ {fu:Nat} {l r:SV N.T} {n:Nat} {cs:List BU},Sh N fu l n=Ac r->l.is C η H (.agg cs.toArray)->r.is C η H (.agg (cs.drop n).toArray)/\n<=cs.length
 |0,_,_,_,_,h,_=>by cases h
 |fu+1,l,r,n,cs,h,d=>by
  unfold Sh at h;split at h;· simp_all
  ·split at h
   ·split at h;· rename_i c;have c:=Aba c;obtain⟨j,k,u,rfl,f,_,_,_,g⟩:=Fj d;obtain⟨i,m⟩:=MY h g;grind[List.drop_append,List.drop_of_length_le]
    grind
   grind
theorem DW{η:Nat->BU}{H:Hp} :∀ {fu:Nat} {ty:Ty} {l r:SV N.T} {x:ty.den N.T} {cs:List BU},JS N C fu ty l=Ac (x,r)->l.is C η H (.agg cs.toArray)->∃c c2,cs=c++c2/\(N.c ty).BI H x c/\r.is C η H (.agg c2.toArray)
 |0,_,_,_,_,_,h,_=>by cases h
 |fu+1,ty,l,r,x,cs,h,f=>by
  unfold JS at h;split at h
  ·rename_i p d;cases h;split at d
   ·split at d;· obtain⟨y,E,e⟩:=Pe.1 d;cases e;obtain⟨c,c2,u,rfl,n,A,B,G,D⟩:=Fj f;refine⟨c,c2,rfl,?_,D⟩;rw[<-B];exact(C3 (IP E (Eu A))).1
    grind
   grind
  ·cases ty with
   |st t=>exact DW (ty:=t) h f
   |pr a b=>
    simp only at h;split at h
    ·rename_i y F k;split at h;· rename_i z I n;cases h;obtain⟨c,c2,rfl,g,j⟩:=DW k f;obtain⟨m,q,rfl,v,w⟩:=DW n j;exact⟨c++m,q,by simp,⟨c,m,rfl,g,v⟩,w⟩
     grind
    grind
   |nm i=>
    obtain⟨⟨y,F⟩,k,e⟩:=Pe.1 h;cases e;obtain⟨c,c2,rfl,g,j⟩:=DW k f;exact⟨c,c2,rfl,N.lay.2 (by rw[N.LF];omega),j⟩
   |_=>cases h
structure wC(C:List (SV N.T))(η:Nat->BU)(H:Hp)(sv:SV N.T)(c:List BU):Prop where
 ex:∃u,sv.is C η H u/\u.cells.toList=c/\((∃ty x,sv= .d ty x/\c.length=ty.sz N)\/(u.oneCell'=Br/\∀ty x,sv≠ .d ty x))
theorem Dh:∀ {l sv:SV N.T} {off:Nat} {d:Option Ty} {cs:List BU},Ez N C l off d=Ac sv->l.is C η H (.agg cs.toArray)->∃c,wC C η H sv c/\(cs.drop off).take c.length=c:=by
 intro l;induction l with
 |lf s a l _ R=>
  intro sv off d cs h F;obtain⟨A,S,u,rfl,M,f,D,W,O⟩:=Fj F;unfold Ez at h;split at h
  ·split at h;· rename_i k b;cases h;simp only[AS]at b;have J:=AI b.1;subst J;have f:=Eu f;have Q:=Mw b.2.2 f;refine⟨A,⟨u,f,D, .inr ⟨Q,λj x e=>?_⟩⟩,by simp⟩;rw[e]at b;cases b.2.2
   ·split at h;· grind
    ·rename_i j;split at h
     ·rename_i y p;cases h;split at p
      ·rename_i t x o;have f:=Eu f;rw[o]at f;have E:=(C3 f).1;rw[D]at E;obtain⟨q,G⟩:=C1 p E;obtain⟨w,v,z⟩:=EF (C:=C) (η:=η) q;have g:((A.drop off).take (j.sz N)).length=j.sz N:=by simp;omega
       refine⟨_,⟨w,v,z, .inl ⟨j,y,rf,g⟩⟩,?_⟩;rw[g,Agb (by omega),Ack (by simp;omega)]
      grind
     ·split at h;· rename_i L;have:=AI L;subst this;obtain⟨⟨y,r⟩,P,e⟩:=Pe.1 h;cases e;obtain⟨I,T,K,B,V⟩:=DW P F;obtain⟨w,v,z⟩:=EF (C:=C) (η:=η) B;refine⟨I,⟨w,v,z, .inl ⟨j,y,rfl,Bb B⟩⟩,?_⟩;rw[K,Afi,List.take_left'];rfl
      ·cases h
  ·rename_i k;have k:s<=off:=by
    rcases Aak off s with n|n;· rw[show Nat.blt off s=Br by simpa using n]at k;cases k
    ·exact n
   obtain⟨c,q,G⟩:=R h O;refine⟨c,q,?_⟩;rw[Acu,Abf (by omega),Abp,M];exact G
 |_=>intro sv off d cs h _;simp[Ez]at h
theorem Iw{η:Nat->BU}{H:Hp}{v:BU}{b:SV N.T}(B:b.is C η H v)(F:∀x∈v.cells.toList,x.oneCell'=Br):∀ {fu:Nat} {l S:SV N.T} {off:Nat} {cs:List BU},dL N C fu l off v.cells.toList.length b=Ac S->l.is C η H (.agg cs.toArray)->
  S.is C η H (.agg (CG cs off v.cells.toList).toArray)/\off+v.cells.toList.length<=cs.length
 |0,_,_,_,_,h,_=>by cases h
 |fu+1,l,S,off,cs,h,hl=>by
  unfold dL at h;split at h
  ·rename_i s a l;obtain⟨f,q,u,rfl,z,c,n,X,A⟩:=Fj hl;split at h
   ·split at h
    ·rename_i k o;simp only[AS]at o;have T:=AI o.1;obtain⟨r,P,rfl⟩:=Pe.1 h;obtain⟨R,k2⟩:=MY P A;refine⟨?_,by grind⟩;have:=K1 B rfl F R;simp_all[CG,Aep,Abp,Abi,Acu,Abf]
    ·split at h;· rename_i t x d;have c:=Eu c;rw[d]at c;have g:=(C3 c).1;rw[n]at g;have:=TW (t:=t) (C:=C) (η:=η) g A;rw[show t.sz N=s from by rw[<-z];exact(Bb g).symm]at this;exact Iw B F h this
     ·rename_i t u' x d;have c:=Eu c;rw[d]at c;have g:=(C3 c).1;rw[n]at g;obtain⟨d1,d2,e,I,w⟩:=g;have:=TW (t:=t) (C:=C) (η:=η) I (TW (t:=u') (C:=C) (η:=η) w A);rw[<-Aam,<-e]at this;exact Iw B F h this
     ·rename_i i x d;have c:=Eu c;rw[d]at c;have g:=(C3 c).1;rw[n]at g;have U:=N.lay.1 g;have:=TW (t:=N.body i) (C:=C) (η:=η) U A;rw[show(N.body i).sz N=s from by grind[Bb]]at this;exact Iw B F h this
     ·rename_i m t x d;split at h
      ·rename_i y x0 p hy j;cases h;simp only[AS]at p;have T:=AI p.1;have L:=AI p.2.1;have c:=Eu c;rw[d]at c;have g:=(C3 c).1;rw[n]at g;obtain⟨I,w⟩:x.length=m/\AZ (N.c t) H x f:=g;have Q:=(C3 (IP hy B)).1;obtain⟨K,q1,_,q3⟩:=w.get j;have E:=Bb q1;have Y:=Ahc off (t.sz N);have M:f.length=x.length*t.sz N:=by rw[w.len,Bk]
       have Z:=(No.1 j).1;have hm:t.sz N*(off/t.sz N)+t.sz N<=f.length:=by rw[M,Acw,<-Aej];exact Abj _ Z
       have V:=w.part (off:=0) (y:=y) (vs:=v.cells.toList) j q3 (by rw[Bk];exact E) (by rw[Bk,L];omega) (by
        have:CG K 0 v.cells.toList=v.cells.toList:=by unfold CG;rw[Aep,Abp,Abi,Abf (by omega),Adc]
        rw[this];exact Q);rw[Bk,Aha,show off/t.sz N*t.sz N=off by rw[Acw];omega]at V;have D:(N.c (.ar m t)).BI H (show(Ty.ar m t).den N.T from(show List (t.den N.T)from x).set (off/t.sz N) y) (CG f off v.cells.toList):=⟨by rw[Acn];exact I,V⟩;have:=TW (t:= .ar m t) (C:=C) (η:=η) D A;rw[show(Ty.ar m t).sz N=s from by rw[<-z];exact(Bb (t:= .ar m t) (show(N.c (.ar m t)).BI H x f from⟨I,w⟩)).symm]at this;refine⟨?_,by rw[Pd];omega⟩;have e:CG (f++q) off v.cells.toList=CG f off v.cells.toList++q:=by
        unfold CG;rw[Ack (by omega),Agb (by omega)];simp
       rw[e];exact this
      trivial
     grind
   ·rename_i k;have k:s<=off:=by
     rcases Aak off s with O|O;· rw[show Nat.blt off s=Br by simpa using O]at k;cases k
     ·exact O
    obtain⟨r,P,rfl⟩:=Pe.1 h;obtain⟨R,k2⟩:=Iw B F P A;refine⟨?_,by simp at*;omega⟩;have:=K1 (s:=s) c (by rw[n];exact z) (by rw[n];exact X) R;rw[n]at this;have e:CG (f++q) off v.cells.toList=f++CG q (off-s) v.cells.toList:=by unfold CG;rw[Aed,Abm (by omega),Acu,Abf (by omega:f.length<=off+v.cells.toList.length),z];simp;omega
    rw[e];exact this
  grind
end
end
section
variable (N : C6) {R : Type}
def T6:List (Option Ty)->Option (Option Ty)
 | []=>Ac C7
 |none::_=>C7
 |some t::l=>match T6 l with
  |some C7=>Ac (Ac t)
  |some (Ac u)=>Ac (Ac (.pr t u))
  |none=>C7
def dY(
     P:Ge):Nat->Ee->Option Ty
 |0,_=>C7
 |a+1,t=>match N.id t with
  |some i=>Ac (.nm i)
  |none=>match P.underlying t with
   |some .bool=>Ac .bool
   |some (.int k)=>Ac (.int k)
   |some .string=>Ac .str
   |some (.slice e)=>(dY P a e).map .sl
   |some (.array n e)=>match P.underlying e,Nat.beq n 4 with
    |some (.int .u64),Br=>Ac .bs
    |_,_=>(dY P a e).map λt=>match Nat.ble n 4 with
     |true=> .st (match T6 (List.replicate n (Ac t))with|some (Ac u)=>u|_=> .un)
     |false=> .ar n t
   |some (.struct b)=>(T6 (b.toList.map λf=>dY P a f.type)).map λr=> .st (r.getD .un)
   |_=>C7
def qD:Bool->Bool->Bool
 |true,Br|false,Ap=>Br
 |_,_=>Ap
theorem VU:∀ {a b:Bool},qD a b=Br->a=b:=by decide
def Lz(P:Ge)(t:Ee):Option Ty:=match dY N P 12 t,P.underlying t with
 |some a,Ac d=>match qD (DC d) a.agg&&S8 P t (a.sz N)with
  |true=>Ac a
  |false=>C7
 |_,_=>C7
variable {N}
section
variable{k:Kj}{n:Int}{C:List (SV N.T)}{η:Nat->BU}{H:Hp}
theorem Iv{P:Ge}{t:Ee}{ty:Ty}(h:Lz N P t=Ac ty):∃d,P.underlying t=Ac d/\DC d=ty.agg/\∃bytes z,TI P t (ty.sz N) bytes z:=by
 unfold Lz at h;split at h
 ·split at h;· rename_i a;grind[VU,Eb]
  grind
 grind
def intOf:SV N.T->Option (Kj×Int)
 | .d (.int k) x=>Ac (k,x)
 | .na n| .ct _ n| .cb _ n=>Ac (.i64,(n:Int))
 | .raw (.int k n)=>Ac (k,n)
 |_=>C7
theorem AY{s:SV N.T}{v:BU}(h:intOf s=Ac (k,n))(a:s.is C η H v):v= .int k n:=by
 unfold intOf at h;split at h;· obtain⟨d,b,c⟩:=a;have b:=(DL.1 b).1;subst b;have c:[_]=[v]:=c;grind
 ·cases h;exact a.1
 ·cases h;exact a.1
 ·cases h;exact a.1
 ·cases h;exact a
 grind
def Aa(k:Kj)(n:Int)(x:Option R):Option R:=match k with
 | .i64=>Af (Dn n) x
 | .u8=>Af (F8 n) x
 |k=>Af (k.min<=n/\n<=k.max) x
theorem BR{x:Option R}{r:R}(h:Aa k n x=Ac r):(k.min<=n/\n<=k.max)/\T9 k n/\x=Ac r:=by
 unfold Aa at h;split at h;· obtain⟨a,b⟩:=AQ h;trivial
 ·obtain⟨a,b⟩:=AQ h;trivial
 ·obtain⟨a,b⟩:=AQ h;refine⟨a,?_,b⟩;cases k<;>first|exact a|grind|exact absurd rfl d
theorem DN(h:T9 k n):(SV.d (.int k) n:SV N.T).is C η H (.int k n):=⟨[_],DL.2 ⟨rfl,h⟩,rfl⟩
def Rq(wr:List (Nat×SR N.T))(Rr:Nat->Option (SR N.T))(k:Nat):Option (SR N.T):=match Ax wr k with
 |some x=>Ac x
 |none=>Rr k
def DF(τ:Nat->Nat)(Rr:Nat->Option (SR N.T)):SV N.T->Prop
 | .ct i n=>τ i=n
 | .cb i n=>τ i=n
 | .lt i n _=>τ i=n
 | .DU k i _ t x=> ∀g a l,Rr k=Ac (.row g a l)->∃h:a.Kw t=Br,(idx l i).map (V8 h)=Ac x
 |_=>True
def Nl(Rr:Nat->Option (SR N.T))(S:Nat->SV N.T)(τ:Nat->Nat):Prop:= ∀t,DF τ Rr (S t)
structure AW(P:Ge)(C:List (SV N.T))(S:Nat->SV N.T)(Rr:Nat->Option (SR N.T))(nk:Nat)(o:J5)(k:Bq N.T->Nat->Option R)(r:R):Prop where
 ex:∃s nk',k s nk'=Ac r/\Ao P C S Rr o s/\nk<=nk'/\(∀j∈keys s.wr,Rr j=C7->nk<=j/\j<nk')/\∀τ,Nl Rr S τ->DF τ (Rq s.wr Rr) s.sv
end
section
variable {P : Ge} {C : List (SV N.T)} {S : Nat -> SV N.T} {Rr : Nat -> Option (SR N.T)} {nk : Nat} {o : J5} {k : Bq N.T -> Nat -> Option R} {r : R}
section
variable{cs:List BU}{τ:Nat->Nat}{t:Ty}{v:BU}
theorem AW.y{sv:SV N.T}{a:List Nat}(h:k ⟨sv,a,[]⟩ nk=Ac r)(c:Ao P C S Rr o ⟨sv,a,[]⟩)(d:∀τ,Nl Rr S τ->DF τ Rr sv):AW P C S Rr nk o k r:=
 ⟨_,nk,h,c,Aad _,λj b=>(by cases b),d⟩
theorem AW.new{sv:SV N.T}{b:List Nat}{c:SR N.T}(h:k ⟨sv,b,[(nk,c)]⟩ (nk+1)=Ac r)(d:Ao P C S Rr o ⟨sv,b,[(nk,c)]⟩)(e:∀τ Rr,DF τ Rr sv):AW P C S Rr nk o k r:=
 ⟨_,nk+1,h,d,Akb _,λj a _=>(by grind[keys]),λτ _=>e τ _⟩
theorem AW.set{sv:SV N.T}{d:List Nat}{b:Nat}{i e:SR N.T}(h:k ⟨sv,d,[(b,e)]⟩ nk=Ac r)(h0:Rr b=Ac i)(f:Ao P C S Rr o ⟨sv,d,[(b,e)]⟩)(g:∀τ Rr,DF τ Rr sv):AW P C S Rr nk o k r:=
 ⟨_,nk,h,f,Aad _,λj a c=>(by grind[keys]),λτ _=>g τ _⟩
theorem LW{x:Dc}(h:Nl Rr S τ):DF τ Rr (Ay S x):=by
 cases x with
 |tmp t=>exact h t
 |const v=>simp only[Ay,ofConst];split<;>trivial
 |_=>trivial
theorem oj{s:SV N.T}(h:Pw s=Br):DF τ Rr s:=by cases s<;>first|trivial|cases h
theorem Vi{x:Dc}(b:o.op= .move x\/o.op= .assign x)(h:k ⟨Ay S x,[],[]⟩ nk=Ac r):AW P C S Rr nk o k r:=by
 refine .y h (Abw λη H O a c _=>⟨a.eval x,?_,?_⟩) λτ h=>LW h
 ·rcases b with b|b<;>rw[b];· exact Aq.move rfl
  ·exact Aq.assign rf
 grind[Op.operands]
theorem Zq{c x y:Dc}(b:o.op= .pick c x y)(hc:Ay S c= .lb Br)(h:k ⟨Ay S x,[],[]⟩ nk=Ac r):AW P C S Rr nk o k r:=by refine .y h (Abw λη H O a d _=>⟨a.eval x,?_,d x (by grind[Op.operands])⟩) λτ h=>LW h;have:=d c (by grind[Op.operands]);rw[hc]at this;rw[b];exact Akx (congrArg Ac this) rf
theorem Zr{c x y:Dc}(b:o.op= .pick c x y)(hc:Ay S c= .lb Ap)(h:k ⟨Ay S y,[],[]⟩ nk=Ac r):AW P C S Rr nk o k r:=by refine .y h (Abw λη H O a d _=>⟨a.eval y,?_,d y (by grind[Op.operands])⟩) λτ h=>LW h;have:=d c (by grind[Op.operands]);rw[hc]at this;rw[b];exact Akw (congrArg Ac this) rf
def ldB(P:Ge)(t:Ee)(sv:SV N.T):Bool:=match P.underlying t with
 |some d=>match sv with
  | .d a _=>qD (DC d) a.agg&&S8 P t (a.sz N)
  |_=> !DC d
 |none=>Ap
def vv(P:Ge)(C:List (SV N.T))(S:Nat->SV N.T)(Rr:Nat->Option (SR N.T))(nk:Nat)(t:Ee)(x:Dc)(k:Bq N.T->Nat->Option R):Option R:=match Ay S x with
 | .loc b off=>match Rr b with
  |some (.Ah _ l)=>match Ez N C l off (Lz N P t)with
   |some sv=>match ldB P t sv with
    |true=>k ⟨sv,[b],[]⟩ nk
    |false=>C7
   |none=>C7
  |_=>C7
 | .pd c y off=>match Lz N P t with
  |some a=>match EW N 16 c y off a,Nat.blt 0 (a.sz N)with
   |some z,Br=>k ⟨.d a z,[],[]⟩ nk
   |_,_=>C7
  |none=>C7
 | .DU b _ off e y=>match Rr b,Lz N P t with
  |some (.row _ _ _),Ac a=>match EW N 16 e y off a,Nat.blt 0 (a.sz N)with
   |some z,Br=>k ⟨.d a z,[b],[]⟩ nk
   |_,_=>C7
  |_,_=>C7
 |_=>C7
theorem J'(h:Cu t cs v)(a:t.agg=Br):v= .agg cs.toArray:=by grind[Cu]
theorem J_(h:Cu t cs v)(a:t.agg=Ap):cs=[v]:=by grind[Cu]
theorem drop_one{off:Nat}{u:BU}(h:(cs.drop off).take 1=[u]):cs[off]?=Ac u:=by
 have:((cs.drop off).take 1)[0]?=Ac u:=by grind
 grind
theorem my{t:Ee}{x:Dc}(ho:o.op= .load t x)(hW:∃τ,Nl Rr S τ)(h:vv P C S Rr nk t x k=Ac r):AW P C S Rr nk o k r:=by
 have U:∀ {η:Nat->BU} {H:Hp} {a:Act},(∀x∈o.op.operands,(Ay S x).is C η H (a.eval x))->(Ay S x).is C η H (a.eval x):=λV=>V x (by grind[Op.operands]);unfold vv at h;split at h
 ·rename_i b off hs;
           split at h
  ·rename_i g l T;split at h
   ·rename_i sv Z;
           split at h
    ·rename_i Q;refine .y h (Abw λη H O a V hr=>?_) λτ _=>?_
     ·obtain⟨B,M,e2⟩:(SV.loc b off:SV N.T).is C η H (a.eval x):=by grind
      rcases hr b (by simp) _ T with e|⟨X,i,L,B',cs,Y,e4,h2⟩;· grind
      rw[M]at Y;have Y:B=B':=by grind[ptr]
      subst Y;subst e4;obtain⟨c,⟨u,k1,k2,k3⟩,k4⟩:=Dh (cs:=cs.toList) Z h2;unfold ldB at Q;split at Q
      ·rename_i d I;rcases k3 with⟨n,y,rfl,f⟩|⟨ho1,hnd⟩;· simp only[AS]at Q;have w:=VU Q.1;obtain⟨bytes,z,F⟩:=Eb Q.2;obtain⟨D,q1,K⟩:=k1;refine⟨u,?_,⟨D,q1,K⟩⟩;rw[ho];cases A:n.agg with
        |true=>
         have:=J' K A;subst this;have hc:D=c:=by trivial
         subst hc;exact Ajs I (by grind) (by rw[f];exact F) (congrArg Ac e2) L k4
        |false=>
         have:=J_ K A;subst this;have hc:c=[u]:=by rw[<-k2];exact A' ((N.c n).one q1 u (by simp))
         subst hc;exact Agv I (by rw[w,A]) (congrArg Ac e2) L (by simpa using drop_one k4)
       ·have hB':DC d=Ap:=by
         cases sv with
         |d n y=>exact absurd rfl (hnd n y)
         |_=>simpa using Q
        refine⟨u,?_,k1⟩;have hc:c=[u]:=by rw[<-k2];exact A' ho1
        subst hc;rw[ho];exact Agv I hB' (congrArg Ac e2) L (by simpa using drop_one k4)
      grind
     ·have:∀ {l sv:SV N.T} {off:Nat} {G:Option Ty},Ez N C l off G=Ac sv->DF τ Rr sv:=by
       intro l;induction l with
       |lf s a l _ ih=>
        intro sv off G h;unfold Ez at h;split at h
        ·split at h;· rename_i T;cases h;simp only[AS]at T;exact oj T.2.2
         ·split at h;· cases h
          ·split at h;· cases h;trivial
           ·split at h;· obtain⟨p,_,rfl⟩:=Pe.1 h;trivial
            ·cases h
        ·exact ih h
       |_=>intro sv off G h;simp[Ez]at h
      exact this Z
    grind
   grind
  grind
 ·rename_i t' y off hs;split at h
  ·rename_i n ht;split at h
   ·rename_i z hz h0;refine .y h (Abw λη H O a V hr=>?_) λτ _=>trivial;obtain⟨ad,q,cs,M,L,h2⟩:(SV.pd t' y off:SV N.T).is C η H (a.eval x):=by rw[<-hs];exact U V
    obtain⟨d,I,w,bytes,zv,F⟩:=Iv ht;obtain⟨k1,k2⟩:=C1 hz L;obtain⟨u,w1,W⟩:=EF (η:=η) k1;have f:((cs.drop off).take (n.sz N)).length=n.sz N:=by simp;omega
    have hc:∀j u,((cs.drop off).take (n.sz N))[j]?=Ac u->DG H (.pointer (Ac (ad.add (q+off+j)))) u:=λj u E=>by
     rw[Aez]at E;split at E;· rw[Afk]at E;rw[Adu];exact h2 _ u E
     ·cases E
    refine⟨u,?_,w1⟩;rw[ho];obtain⟨D,q1,K⟩:=w1;cases A:n.agg with
    |true=>
     have:=J' K A;subst this;have e:D=(cs.drop off).take (n.sz N):=by simpa [BU.cells]using W
     subst e;refine Aiz (v:= .slice (Ac ad) 0 0) (k:=q+off) I (by rw[w,A]) (by rw[f];exact F) ?_ (congrArg Ac M) hc;cases Z:(cs.drop off).take (n.sz N)with
     |nil=>rw[Z]at f;simp at f h0;omega
     |cons a l=>rfl
    |false=>
     have:=J_ K A;subst this;rw[A' ((N.c n).one q1 u (by simp))]at W;exact Ajw I (by rw[w,A]) (congrArg Ac M) (by have:=hc 0 u (by rw[<-W];rfl);simpa using this)
   ·cases h
  ·cases h
 ·rename_i b i off te y hs;split at h
  ·rename_i g te' l n T ht;split at h
   ·rename_i z hz h0;refine .y h (Abw λη H O a V hr=>?_) λτ _=>trivial;obtain⟨M,ad,n',c',e2⟩:(SV.DU b i off te y:SV N.T).is C η H (a.eval x):=by rw[<-hs];exact U V
    obtain⟨τ,hτ⟩:=hW;have hw:DF τ Rr (Ay S x):=LW hτ;rw[hs]at hw;obtain⟨he,hi⟩:=hw g te' l T;obtain⟨y',hy',rfl⟩:=Pe.1 hi;have ee:=Adx he;subst ee;rcases hr b (by simp) _ T with e|⟨X,j,L,xs,Y,hL⟩;· cases e
    subst Y;obtain⟨d,I,w,bytes,zv,F⟩:=Iv ht;obtain⟨cs,g1,g2,_⟩:=hL.get (Hi hy').2;obtain⟨k1,k2⟩:=C1 hz g1;obtain⟨u,w1,W⟩:=EF (η:=η) k1;have f:((cs.drop off).take (n.sz N)).length=n.sz N:=by simp;omega
    have hc:∀j u,((cs.drop off).take (n.sz N))[j]?=Ac u->xs[i.toNat*te'.sz N+off+j]?=Ac u:=λj u E=>by
     rw[Aez]at E;split at E;· rw[Afk]at E;have:=g2 _ u E;rw[Bk]at this;rw[Adu];exact this
     ·cases E
    refine⟨u,?_,w1⟩;rw[ho];obtain⟨D,q1,K⟩:=w1;cases A:n.agg with
    |true=>
     have:=J' K A;subst this;have e:D=(cs.drop off).take (n.sz N):=by simpa [BU.cells]using W
     subst e;refine Alh I (by rw[w,A]) (by rw[f];exact F) ?_ (congrArg Ac M) L hc;intro Z;rw[Z]at f;simp at f h0;omega
    |false=>
     have:=J_ K A;subst this;rw[A' ((N.c n).one q1 u (by simp))]at W;exact Akp I (by rw[w,A]) (congrArg Ac M) L (by have:=hc 0 u (by rw[<-W];rfl);simpa using this)
   ·cases h
  ·cases h
 grind
end
end
end
section
variable {N : C6} {R : Type} {P : Ge} {C : List (SV N.T)} {S : Nat -> SV N.T} {Rr : Nat -> Option (SR N.T)} {nk : Nat} {o : J5} {k : Bq N.T -> Nat -> Option R} {r : R}
section
variable{t T:Ee}{E:Dc->Option BU}{H:Hp}{O:List Av}
theorem Akg{size bytes:Nat}{z:BU}(g:TI P t size bytes z):
  BJ P (.alloc t) T E H O (λv c d=> ∃B,v=ptr B 0/\c=H/\d= .Ah B (.cells z.cells t (0,0))::O):= .Am λa w o e _ h f=>by
 refine⟨_,_,H,_,?_,Hp.le.refl H,⟨w.heap.size,rf,rf,rf⟩,f.alloc _⟩;simp[ID,e,Instr.alloc,g.zeroValue,newVar,newRow,ptr]
theorem Aip{x:Dc}{v:BU}(h:E x=Ac v):
  BJ P (.box t x) T E H O (λu c d=> ∃B,u=ptr B 0/\c=H/\d= .Ah B (.cells v.cells t (0,0))::O):= .Am λa w o f _ e g=>by
 refine⟨_,_,H,_,?_,Hp.le.refl H,⟨w.heap.size,rf,rf,rf⟩,g.alloc _⟩;simp_all[ID,Instr.box,newVar,newRow,ptr]
def Ta(C:List (SV N.T))(t:Ty)(s:SV N.T):Option (t.den N.T):=match s with
 | .lf z a l=>match t.agg,JS N C 64 t (.lf z a l)with
  |true,Ac (x, .nl)=>Ac x
  |_,_=>C7
 |s=>dP N t s
theorem Dm{t:Ty}{s:SV N.T}{x:t.den N.T}{η:Nat->BU}{H:Hp}{v:BU}(h:Ta C t s=Ac x)(b:s.is C η H v):(SV.d t x).is C η H v:=by
 unfold Ta at h;split at h
 ·split at h
  ·rename_i l m;cases h;have i:=b;obtain⟨d,f,u,rfl,_⟩:=i;obtain⟨g,c,e,j,a⟩:=DW (η:=η) (H:=H) (cs:=d++f) m b;have a:BU.agg c.toArray= .agg #[]:=a;have a:c=[]:=by grind
   subst a;refine⟨g,j,?_⟩;grind[Cu]
  grind
 grind[IP]
end
variable (N) in
def dT(P:Ge):Nat->List Ee->List BU->Option (SV N.T)
 |0,_,_=>C7
 |_+1,[],c=>match c with
  | []=>Ac .nl
  |_=>C7
 |e+1,t::f,c=>match a (Lz N P t)with
  |some b=>match parse N 16 b c with
   |some (x,r)=>(dT P e f r).map (.lf (b.sz N) (.d b x))
   |none=>C7
  |none=>match P.underlying t with
   |some (.struct g)=>dT P e (g.toList.map (·.type)++f) c
   |some (.array _ _)=>match Lz N P t with
    |some b=>match parse N 16 b c with
     |some (x,r)=>(dT P e f r).map (.lf (b.sz N) (.d b x))
     |none=>C7
    |none=>C7
   |_=>match c with
    |v::r=>match v.oneCell' with
     |true=>(dT P e f r).map (.lf 1 (.raw v))
     |false=>C7
    | []=>C7
 where
 a:Option Ty->Option Ty
  |some t=>match EE t with
   |true=>Ac t
   |false=>C7
  |none=>C7
section
variable{η:Nat->BU}{H:Hp}{t:Ee}{v:BU}{s:SV N.T}{x:Dc}{n:Nat}
theorem J0{η:Nat->BU}{H:Hp} :∀ {fu:Nat} {ts:List Ee} {cs:List BU} {l:SV N.T},dT N P fu ts cs=Ac l->l.is C η H (.agg cs.toArray)
 |0,_,_,_,h=>by cases h
 |_+1,[],cs,l,h=>by
  cases cs with
  |nil=>cases h;rfl
  |cons v r=>cases h
 |fu+1,t::ts,cs,l,h=>by
  have b:∀(e:Ty),(match parse N 16 e cs with
   |some (x,r)=>(dT N P fu ts r).map (.lf (e.sz N) (.d e x))
   |none=>C7)=Ac l->l.is C η H (.agg cs.toArray):=λe h=>by
   split at h;· rename_i x r j;obtain⟨m,f,rfl⟩:=Pe.1 h;obtain⟨p,rfl,i⟩:=CD (H:=H) j;exact TW i (J0 f)
   grind
  unfold dT at h;split at h;· exact b _ h
  ·split at h;· exact J0 h
   ·split at h;· exact b _ h
    grind
   ·split at h
    ·rename_i v r;split at h;· rename_i c;obtain⟨m,f,rfl⟩:=Pe.1 h;have:=K1 (N:=N) (s:=1) (a:= .raw v) (η:=η) (H:=H) rfl (by rw[A' c];rfl) (by rw[A' c];intro x g;simp at g;subst g;exact c) (J0 f);grind[A']
     grind
    grind
def Uq(P:Ge)(nk:Nat)(t:Ee)(k:Bq N.T->Nat->Option R):Option R:=match P.info? t with
 |some a=>match a.zero with
  |some z=>match dT N P 64 [t] z.cells.toList with
   |some l=>k ⟨.loc nk 0,[],[(nk, .Ah t l)]⟩ (nk+1)
   |none=>C7
  |none=>C7
 |none=>C7
theorem Zv(g:o.op= .alloc t)(d:∀j,nk<=j->Rr j=C7)(h:Uq P nk t k=Ac r):AW P C S Rr nk o k r:=by
 unfold Uq at h;split at h
 ·rename_i b e;split at h
  ·rename_i z i;split at h;· rename_i l f;refine .new h (Afv (d nk (Aad _)) λη H O a n _=>?_) λ_ _=>trivial;rw[g];refine(Akg (size:=b.size) (bytes:=b.bytes) ⟨b,e,rfl,rfl,i⟩).mono ?_;rintro v c m ⟨B,rfl,rfl,rfl⟩;refine⟨rfl,_,ptr B 0,rfl,⟨B,z.cells,AB _ _ _,rfl,by have:=J0 (C:=C) (η:=El η nk (ptr B 0)) (H:=c) f;omega⟩,⟨B,AB _ _ _,rfl⟩⟩
   grind
  grind
 grind
def ve(P:Ge)(t:Ee)(s:SV N.T):SV N.T:=match Pw s with
 |true=>s
 |false=>match Lz N P t with
  |some a=>match dP N a s with
   |some y=> .d a y
   |none=>s
  |none=>s
theorem TO(h:s.is C η H v):(ve P t s).is C η H v:=by grind[ve,IP]
theorem aR{b:BU}(d:∀k∈CP C,k<nk)(c:BZ s.AJ nk=Ap)(h:s.is C η H v):s.is C (El η nk b) H v:=
 h.env (λk a=>Gw (by grind)) λk a=>Gw λe=>by grind[AP]
def rj(P:Ge)(S:Nat->SV N.T)(nk:Nat)(t:Ee)(x:Dc)(k:Bq N.T->Nat->Option R):Option R:=match toL N (ve P t (Ay S x))with
 |some l=>match BZ l.AJ nk with
  |false=>k ⟨.loc nk 0,[],[(nk, .Ah t l)]⟩ (nk+1)
  |true=>C7
 |none=>C7
theorem oY(b:o.op= .box t x)(c:∀k∈CP C,k<nk)(d:∀j,nk<=j->Rr j=C7)(h:rj P S nk t x k=Ac r):AW P C S Rr nk o k r:=by
 unfold rj at h;split at h
 ·rename_i l e;split at h;· rename_i f;refine .new h (Afv (d nk (Aad _)) λη H O a i _=>?_) λ_ _=>trivial;have g:=i x (by grind[Op.operands]);rw[b];refine(Aip (v:=a.eval x) rfl).mono ?_;rintro v m n ⟨B,rfl,rfl,rfl⟩;exact⟨rfl,_,ptr B 0,rfl,⟨B,_,AB _ _ _,rfl,aR c f (nO e (TO g))⟩,⟨B,AB _ _ _,rfl⟩⟩
  grind
 grind
def ZZ:SV N.T->Option (SV N.T×Nat)
 | .d t x=>Ac (.d t x,t.sz N)
 | .ct _ n| .cb _ n=>Ac (.na n,1)
 | .lt _ n m=>Ac (.d .bool (decide ((n:Int)<(m:Int))),1)
 |s=>match Pw s with
  |true=>Ac (s,1)
  |false=>C7
theorem ZY{d:SV N.T}(h:ZZ s=Ac (d,n))(a:s.is C η H v):d.is C η H v/\v.cells.toList.length=n/\∀x∈v.cells.toList,x.oneCell'=Br:=by
 have one:v.oneCell'=Br->v.cells.toList.length=1/\∀x∈v.cells.toList,x.oneCell'=Br:=λb=>by grind[A']
 unfold ZZ at h;split at h;· obtain⟨e,f⟩:=C3 a;grind[Bb]
 ·cases h;exact⟨a,one (by rw[a.1];rfl)⟩
 ·cases h;exact⟨⟨a.1,Agy a.2⟩,one (by rw[a.1];rfl)⟩
 ·cases h;exact⟨⟨[_],rfl,by rw[a.1];rfl⟩,one (by rw[a.1];rfl)⟩
 grind[Mw]
theorem ep(cs:List BU)(off:Nat)(a c2:List BU)(h:off+(a.length+c2.length)<=cs.length):CG (CG cs off a) (off+a.length) c2=CG cs off (a++c2):=by
 have e:(cs.take off++a).length=off+a.length:=by grind
 unfold CG;rw[Ack (by omega),Abm (by omega),Acu,Abf (by omega),Abp,Adi,e];grind
def ej(C:List (SV N.T)):SV N.T->SV N.T->Nat->Option (SV N.T×Nat)
 | .lf s a r,l,off=>match dL N C 64 l off s a with
  |some b=>(ej C r b (off+s)).map λp=>(p.1,s+p.2)
  |none=>C7
 | .nl,l,_=>Ac (l,0)
 |_,_,_=>C7
theorem eh:∀ {b l g:SV N.T} {off n:Nat} {cs vs:List BU},ej C b l off=Ac (g,n)->off<=cs.length->b.is C η H (.agg vs.toArray)->l.is C η H (.agg cs.toArray)->
  g.is C η H (.agg (CG cs off vs).toArray)/\off+n<=cs.length/\vs.length=n/\∀x∈vs,x.oneCell'=Br:=by
 intro b;induction b with
 |lf s a r _ I=>
  intro l g off n cs vs h z d q;unfold ej at h;split at h
  ·rename_i O y;obtain⟨⟨Q,m⟩,G,e⟩:=Pe.1 h;cases e;obtain⟨t,D,u,rfl,v,E,p,w,F⟩:=Fj d;rw[<-v,<-p]at y;obtain⟨B,L⟩:=Iw E (by simp_all) y q;rw[p]at B L;have c:(CG cs off t).length=cs.length:=by unfold CG;simp;omega
   obtain⟨A,J,M,K⟩:=I (cs:=CG cs off t) (vs:=D) G (by omega) F B;rw[<-v,ep _ _ _ _ (by omega)]at A;refine⟨A,by omega,by simp;omega,λx f=>?_⟩;rcases AT.1 f with f|f;· exact w x f
   simp_all
  trivial
 |nl=>
  intro l g off n cs vs h z d q;cases h;have d:BU.agg vs.toArray= .agg #[]:=d;have d:vs=[]:=by simpa using d
  subst d;refine⟨?_,by simpa using z,rfl,λx f=>(by cases f)⟩;unfold CG;simpa using q
 |_=>intro l g off n cs vs h;cases h
def eQ(C:List (SV N.T))(l:SV N.T)(off:Nat)(b:SV N.T):Option (SV N.T×Nat):=match b with
 | .lf s a r=>ej C (.lf s a r) l off
 |b=>match ZZ b with
  |some (s,n)=>(dL N C 64 l off n s).map λl=>(l,n)
  |none=>C7
theorem U'{b l g:SV N.T}{off:Nat}{cs:List BU}(h:eQ C l off b=Ac (g,n))(t:off<=cs.length)(c:b.is C η H v)(d:l.is C η H (.agg cs.toArray)):
  g.is C η H (.agg (CG cs off v.cells.toList).toArray)/\off+n<=cs.length/\v.cells.toList.length=n/\∀x∈v.cells.toList,x.oneCell'=Br:=by
 unfold eQ at h;split at h;· have p:=c;obtain⟨i,j,u,rfl,_⟩:=p;have:=eh (vs:=i++j) h t c d;trivial
 ·split at h;· rename_i s m w;obtain⟨D,q,e⟩:=Pe.1 h;obtain⟨y,z,f⟩:=ZY w c;grind[Iw]
  grind
def RI:SV N.T->Nat
 | .lf s _ l=>s+RI l
 |_=>0
theorem RH:∀ {l:SV N.T} {cs:List BU},l.is C η H (.agg cs.toArray)->RI l<=cs.length:=by
 intro l;induction l with
 |lf s a r _ c=>
  intro cs h;obtain⟨d,e,u,rfl,f,_,_,_,b⟩:=Fj h;grind[RI]
 |_=>intro cs h;exact Abh _
def yC(P:Ge)(C:List (SV N.T))(S:Nat->SV N.T)(Rr:Nat->Option (SR N.T))(nk:Nat)(t:Ee)(x y:Dc)(k:Bq N.T->Nat->Option R):Option R:=match Ay S x with
 | .loc b off=>match Rr b with
  |some (.Ah g l)=>match Nat.ble off (RI l),eQ C l off (ve P t (Ay S y))with
   |true,Ac (e,n)=>match S8 P t n with
    |true=>k ⟨.no,[],[(b, .Ah g e)]⟩ nk
    |false=>C7
   |_,_=>C7
  |_=>C7
 | .DU b i off d z=>match Rr b,Lz N P t with
  |some (.row g a l),Ac c=>match Ta C c (Ay S y)with
   |some u=>match setAt N 16 d z off c u,P6 N.T d a,Nat.blt 0 (c.sz N)with
    |some h,Ac f,Br=>k ⟨.no,[],[(b, .row g a (l.set i.toNat (f h)))]⟩ nk
    |_,_,_=>C7
   |none=>C7
  |_,_=>C7
 |_=>C7
theorem mx{y:Dc}(J:o.op= .store t x y)(hW:∃τ,Nl Rr S τ)(h:yC P C S Rr nk t x y k=Ac r):AW P C S Rr nk o k r:=by
 have E:∀ {η:Nat->BU} {H:Hp} {a:Act},(∀x∈o.op.operands,(Ay S x).is C η H (a.eval x))->(Ay S x).is C η H (a.eval x):=λe=>e x (by grind[Op.operands]);have F:∀ {η:Nat->BU} {H:Hp} {a:Act},(∀x∈o.op.operands,(Ay S x).is C η H (a.eval x))->(Ay S y).is C η H (a.eval y):=λe=>e y (by grind[Op.operands]);unfold yC at h;split at h
 ·rename_i b off K;split at h
  ·rename_i g l w;split at h
   ·rename_i l' n U G;split at h
    ·rename_i V;obtain⟨bytes,zv,p⟩:=Eb V;refine .set h w (Agr w (by simp) λη H O a X i e L s _=>?_) λ_ _=>trivial;obtain⟨B,I,e2⟩:(SV.loc b off:SV N.T).is C η H (a.eval x):=by grind
     obtain⟨B',cs,q,e4,s⟩:=s;rw[I]at q;have q:B=B':=by simpa [ptr]using q
     subst q;subst e4;have A:=Aar (Aba U) (RH (cs:=cs.toList) s);obtain⟨Z,q2,q3,q4⟩:=U' (cs:=cs.toList) G A (TO (F e)) s;subst q3;rw[J];refine⟨_,⟨B,_,I,rfl,Z⟩,(BJ.Q3 (congrArg Ac e2) rfl rfl p rfl q4 L (by simpa using q2)).mono ?_⟩;rintro v H' O' ⟨rfl,rfl⟩;trivial
    grind
   grind
  grind
 ·rename_i b i off te z K;split at h
  ·rename_i g c l ty w ht;split at h
   ·rename_i u hu;split at h
    ·rename_i z' f hz hf h0;obtain⟨τ,Y⟩:=hW;have hw:DF τ Rr (Ay S x):=LW Y;rw[K]at hw;obtain⟨he,hi⟩:=hw g c l w;obtain⟨y',W,rfl⟩:=Pe.1 hi;have ee:=Adx he;subst ee;obtain⟨he2,rfl⟩:=Bw hf;obtain⟨d,hd,hag,bytes,zv,p⟩:=Iv ht;refine .set h w (Agr w (by simp) λη H O a X j e L s _=>?_) λ_ _=>trivial;obtain⟨I,ad,n',c',e2⟩:(SV.DU b i off c _:SV N.T).is C η H (a.eval x):=by rw[<-K];exact E e
     obtain⟨xs,q,M⟩:=s;subst q;obtain⟨k1,k2⟩:=C3 (Dm hu (F e));have D:=Bb k1;obtain⟨⟨hi0,MP⟩,m⟩:=Hi W;obtain⟨cs,g1,g2,g3⟩:=M.get m;obtain⟨Z,q2⟩:=Eo hz g1 k1;have T:=Bb g1;rw[Bk]at g3;have Q:=M.len;rw[Bk]at Q;have hb2:i.toNat*c.sz N+c.sz N<=l.length*c.sz N:=by rw[<-Aej];exact Abj _ (by omega)
     rw[J];have hp:=M.part (off:=off) m (by rw[Bk];exact g3) (by rw[Bk];exact T) (by rw[Bk];omega) Z;rw[Bk]at hp;refine⟨.row (η b) g (c.sz N) l.length (CG xs (i.toNat*c.sz N+off) (a.eval y).cells.toList),⟨_,by rw[Acn],hp⟩,(Akf (congrArg Ac I) rfl rfl p D (by simpa using h0) k2 L (by omega)).mono ?_⟩;rintro v H' O' ⟨rfl,rfl⟩;exact⟨rfl,rfl,trivial⟩
    ·cases h
   ·cases h
  ·cases h
 grind
end
end
section
variable {N : C6} {R : Type} {P : Ge} {C : List (SV N.T)} {S : Nat -> SV N.T} {Rr : Nat -> Option (SR N.T)} {nk : Nat} {o : J5} {k : Bq N.T -> Nat -> Option R} {r : R}
section
variable{H:Hp}{x:Dc}{t:Ee}{η:Nat->BU}{i:Nat}{y:Dc}{v:BU}{b:Bool}
theorem Ajo{T:Ee}{E:Dc->Option BU}{O:List Av}{s off d:Nat}{c:Addr}(f:iN P s i off d)(h:E x=Ac (.pointer (Ac c))):Aq P (.fieldAddr s x i) T E H O (.pointer (Ac (c.add off))):= .Am λj w l g _ e _=>by have:=KU (w:=w) (a:=c) f;simp_all[ID]
def qo(P:Ge)(C:List (SV N.T))(S:Nat->SV N.T)(nk:Nat)(t:Ee)(x:Dc)(i:Nat)(k:Bq N.T->Nat->Option R):Option R:=match gC P t i with
 |some (off,_,m)=>match Nat.blt 0 m with
  |true=>match Ay S x with
   | .loc b q=>k ⟨.loc b (q+off),[],[]⟩ nk
   | .pd t y q=>k ⟨.pd t y (q+off),[],[]⟩ nk
   | .DU b j q a z=>k ⟨.DU b j (q+off) a z,[],[]⟩ nk
   |_=>C7
  |false=>C7
 |none=>C7
theorem oR(s:o.op= .fieldAddr t x i)(h:qo P C S nk t x i k=Ac r):AW P C S Rr nk o k r:=by
 have d:∀ {η:Nat->BU} {H:Hp} {a:Act},(∀x∈o.op.operands,(Ay S x).is C η H (a.eval x))->(Ay S x).is C η H (a.eval x):=λe=>e x (by grind[Op.operands]);unfold qo at h;split at h
 ·rename_i off K m G;split at h
  ·rename_i I;obtain⟨w,rfl⟩:∃w,m=w+1:=⟨m-1,by simp at I;omega⟩;have u:=iN.of G;split at h
   ·rename_i b q g;refine .y h (Abw λη H O a e _=>?_) λ_ _=>trivial;obtain⟨B,f,p⟩:(SV.loc b q:SV N.T).is C η H (a.eval x):=by grind
    refine⟨ptr B (q+off),?_,B,f,rf⟩;rw[s];exact Ahf u (congrArg Ac p) rf
   ·rename_i J y q g;refine .y h (Abw λη H O a e _=>?_) λ_ _=>trivial;obtain⟨l,n,D,f,E,F⟩:(SV.pd J y q:SV N.T).is C η H (a.eval x):=by rw[<-g];exact d e
    refine⟨.pointer (Ac ((l.add (n+q)).add off)),?_,l,n,D,?_,E,F⟩;· rw[s];exact Ajo u (congrArg Ac f)
    ·rw[C5,Adu]
   ·rename_i b j q A z g;refine .y h (Abw λη H O a e _=>?_) λτ v=>?_
    ·obtain⟨f,l,n,c,p⟩:(SV.DU b j q A z:SV N.T).is C η H (a.eval x):=by rw[<-g];exact d e
     rw[p]at f;refine⟨.pointer (Ac ((l.add (j.toNat*A.sz N+q)).add off)),?_,?_,l,n,c,p⟩;· rw[s];exact Ajo u (congrArg Ac f)
     ·rw[p,C5,Adu];rfl
    ·have:=LW (x:=x) v;rw[g]at this;exact this
   grind
  grind
 grind
def yQ(P:Ge)(S:Nat->SV N.T)(Rr:Nat->Option (SR N.T))(nk:Nat)(t:Ee)(x y:Dc)(k:Bq N.T->Nat->Option R):Option R:=match P.underlying t,intOf (Ay S y)with
 |some (.slice e),Ac (_,n)=>match Ay S x with
  | .d (.sl c) l=>match S8 P e (c.sz N)with
   |true=>Ab (idx l n) λz=>k ⟨.pd c z 0,[],[]⟩ nk
   |false=>C7
  | .AG b=>match Rr b with
   |some (.row _ c l)=>match S8 P e (c.sz N)with
    |true=>Ab (idx l n) λz=>k ⟨.DU b n 0 c z,[b],[]⟩ nk
    |false=>C7
   |_=>C7
  |_=>C7
 |some (.array len e),Ac (_,n)=>match Ay S x,P.info? e with
  | .loc b q,Ac a=>match a.zero with
   |some _=>Af (0<=n/\n<(len:Int)) (k ⟨.loc b (q+n.toNat*a.size),[],[]⟩ nk)
   |none=>C7
  |_,_=>C7
 |_,_=>C7
theorem mz(M:o.op= .indexAddr t x y)(h:yQ P S Rr nk t x y k=Ac r):AW P C S Rr nk o k r:=by
 have p:∀ {η:Nat->BU} {H:Hp} {a:Act},(∀x∈o.op.operands,(Ay S x).is C η H (a.eval x))->(Ay S x).is C η H (a.eval x):=λd=>d x (by grind[Op.operands]);have s:∀ {η:Nat->BU} {H:Hp} {a:Act},(∀x∈o.op.operands,(Ay S x).is C η H (a.eval x))->(Ay S y).is C η H (a.eval y):=λd=>d y (by grind[Op.operands]);unfold yQ at h;split at h
 ·rename_i e kk n ht Z;split at h
  ·rename_i G l T;split at h
   ·rename_i hB;obtain⟨bytes,zv,E⟩:=Eb hB;obtain⟨z,F,h⟩:=Bp h;refine .y h (Abw λη H O a d _=>?_) λ_ _=>trivial;obtain⟨cs,⟨v,rfl,hv⟩,I⟩:(SV.d (.sl G) l:SV N.T).is C η H (a.eval x):=by grind
    have I:[v]=[a.eval x]:=I;cases I;have m:=AY Z (s d);obtain⟨cs,g1,g2⟩:=GI.get hv F;have W:=av F;have D:∃f c,a.eval x= .slice (Ac f) l.length c:=by
     rcases hv.sl with⟨_,h0⟩|⟨f,c,e,_⟩;· omega
     ·exact⟨f,c,e⟩
    obtain⟨f,c,V⟩:=D;refine⟨AO (a.eval x) (n.toNat*G.sz N),?_,f,n.toNat*G.sz N,cs,by rw[V];rfl,g1,λj u hj=>?_⟩;· rw[M];exact Ahp ht E rfl hv.sl (congrArg Ac m) W
    ·have:=g2 j u hj;rw[V,Bk]at this;exact this
   grind
  ·rename_i b T;split at h
   ·rename_i g G l W;split at h
    ·rename_i hB;obtain⟨bytes,zv,E⟩:=Eb hB;obtain⟨z,F,h⟩:=Bp h;refine .y h (λη H Of a w Y L A hi d hr hfr K Q hK=>?_) λτ _ g' t' l' J=>?_
     ·rcases hr b (.inl (by simp)) _ W with e|⟨X,h1,xs,m,hL⟩;· cases e
      subst m;obtain⟨i,h2,_⟩:=Iz Of L h1;have e1:a.eval x=η b:=by
       have:(SV.AG b:SV N.T).is C η H (a.eval x):=by rw[<-T];exact p d
       exact this.1
      have m:=AY Z (s d);have hbd:=av F;have D:∃f c,η b= .slice (Ac f) l.length c:=by
       rcases(A.Mj h2).1 with⟨_,h0⟩|⟨f,c,e,_⟩;· omega
       ·exact⟨f,c,e⟩
      obtain⟨f,c,V⟩:=D;have hop:Aq P o.op o.type (EV a) H (Y.map (·.2)++Of) (AO (η b) (n.toNat*G.sz N)):=by rw[M];exact Akv ht E (congrArg Ac e1) h2 (congrArg Ac m) hbd
      refine Afq (hop a w o rfl rfl (λx u e=>by simpa using e) A) A λw' hw'=>?_;exact hK _ w' H η Y (Hp.le.refl H) (λ_ _=>rfl) (λ_ _=>rfl) (λk sr h=>by cases h) L (λk hk=> .inl hk) hw' ⟨rfl,f,l.length,c,V⟩
     ·rw[W]at J;cases J;exact⟨Ty.Se G,by rw[F];rfl⟩
    ·cases h
   ·cases h
  grind
 ·rename_i len e kk n ht Z;split at h
  ·rename_i b q U T hi;split at h
   ·rename_i z F;obtain⟨hc,h⟩:=AQ h;refine .y h (Abw λη H O a d _=>?_) λ_ _=>trivial;obtain⟨B,e1,I⟩:(SV.loc b q:SV N.T).is C η H (a.eval x):=by rw[<-T];exact p d
    have m:=AY Z (s d);refine⟨ptr B (q+n.toNat*U.size),?_,B,e1,rfl⟩;rw[M];exact Aq.vC (z:=z) ht ⟨U,hi,rfl,rfl,F⟩ (congrArg Ac I) (congrArg Ac m) hc rfl
   ·cases h
  ·cases h
 grind
def qZ(P:Ge)(S:Nat->SV N.T)(nk:Nat)(t:Ee)(x y:Dc)(k:Bq N.T->Nat->Option R):Option R:=match P.underlying t,dP N .str (Ay S x),intOf (Ay S y)with
 |some .string,Ac s,Ac (_,n)=>Ab (ER s n) λz=>k ⟨.d (.int .u8) z,[],[]⟩ nk
 |_,_,_=>C7
theorem kK{s:Au}(h:(SV.d .str s:SV N.T).is C η H v):v=sv s:=by obtain⟨c,a,b⟩:=h;subst a;have b:[_]=[v]:=b;grind
theorem Qj(h:(SV.d .bool b:SV N.T).is C η H v):v= .bool b:=by obtain⟨d,a,c⟩:=h;subst a;have c:[_]=[v]:=c;grind
theorem CL:(SV.d .bool b:SV N.T).is C η H (.bool b):=⟨[_],rfl,rfl⟩
theorem oV(b:o.op= .index t x y)(h:qZ P S nk t x y k=Ac r):AW P C S Rr nk o k r:=by
 unfold qZ at h;split at h;· rename_i s l n j i g;obtain⟨z,d,h⟩:=Bp h;refine .y h (Abw λη H O a c _=>?_) λ_ _=>trivial;have e:=kK (IP i (c x (by grind[Op.operands])));have f:=AY g (c y (by simp_all[Op.operands]));refine⟨.int .u8 z,?_,DN (gk d).2⟩;rw[b];exact Ako j (congrArg Ac e) (congrArg Ac f) d
 grind
end
end
end Go.GV
