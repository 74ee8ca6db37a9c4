/- Part 1 of the texts of this claim: what its theorem leans on. -/
import Derived.WalkKit
import Derived.Deep.Quiet
import Derived.StillTail
import Derived.ProofKit
import Derived.OpenShut
import Derived.Carry
import Derived.Deep.Slices
import Derived.Scope
import Derived.Laws.StructEq
import Derived.ChangeKeysEq
import Derived.WalkLawsBesides
import Derived.Maps.OwnOps
import Derived.Maps.OwnSet
import Derived.Lib.AppendStr
import Derived.Lib.UnsafeStr
import Derived.Lib.Builder
import Derived.Laws.Externs
import Derived.LaidEqlPtr
import Derived.Lib.LaidTab
import Derived.Lib.ItoaNum
import Derived.Sort.OwnSortedInts
import Derived.Deep.Draws
import Derived.WalkSmall
import Derived.ChangeMaps5
import Derived.Test.YtejdlmphkeeekaaGreatDoorProg
import Derived.KernelRfl
import Derived.Shelf.Small.Wraps
import Derived.Shelf.Strconv.Itoa0
import Derived.Shelf.Strconv.Itoa1
import Derived.Shelf.LaysM
import Derived.Shelf.Strconv.Itoa2
import Derived.Shelf.Strconv.Itoa3
import Derived.Shelf.Strconv.AppendUint10
import Derived.Shelf.Strconv.AppendInt10
import Derived.Shelf.Strconv.AppendIntPublic10
import Derived.DeepKeys4
set_option linter.all false
open Option renaming some→Ac,none→Dc
open Bool renaming false→Ak,true→Br
open Go renaming Value→Ce,Operand→Er,TypeId→Gn,Program→GO,World→IK,execOp→Kr,Oper→K5,IntKind→Lm
open Decidable renaming decide→Ds
open Nat renaming beq→Hg,eq_of_beq_eq_true→aP,blt→aT,ble→iJ
open List renaming replicate→T9,range→aO,drop_of_length_le→rA,take_of_length_le→rC,set_eq_take_append_cons_drop→xu,drop_drop→xI,map_congr_left→Alx
open Go.Op renaming operands→Z8,equalIn→lj,bytesLess→rR,equal→rY,stringOp→xq,maxDepth→Alu
open Go.Region renaming wanted→fc,binds→qw,ready→Aly
open Go.Result renaming andThen→iT,andThen_ok→nt
open Go.Instr renaming fill→nF,sureAddr→nI,sliceAt→sO,loadAt→Alq
open Go.Sem renaming run_bind→oO
open Go.Deferred renaming ofValue→rz
open Go.Addr renaming add_lit→rD,add→xX
open Go renaming sizeOf→r_
open Array renaming replicate→Alw
namespace Go
abbrev AI:=@aP
abbrev AN:=@List.getElem_mem
abbrev AS:=@Bool.and_eq_true
abbrev AT:=@List.mem_append
abbrev By:=@List.mem_map
abbrev GB:=@List.take_succ_eq_append_getElem
abbrev IN:=@List.getElem?_eq_getElem
abbrev IS:=@Classical.byContradiction
abbrev IT:=@List.all_eq_true
abbrev No:=@List.getElem?_eq_some_iff
abbrev OF:=@List.length_eq_zero_iff
abbrev Pd:=@Option.map_eq_some_iff
abbrev Pe:=@List.mem_flatMap
abbrev Aaa:=@List.getElem?_append_left
abbrev Aab:=@List.length_append
abbrev Aac:=@List.getElem?_append_right
abbrev Aad:=@List.getD_eq_getElem?_getD
abbrev Aae:=@List.mem_singleton
abbrev Aaf:=@Nat.le_refl
abbrev Aag:=@List.mem_cons_of_mem
abbrev Aai:=@List.mem_of_getElem?
abbrev Aaj:=@List.map_map
abbrev Aak:=@List.append_assoc
abbrev Aal:=@Nat.lt_or_ge
abbrev Aam:=@Nat.le_trans
abbrev Aan:=@List.map_append
abbrev Aao:=@List.mem_cons
abbrev Aap:=@List.length_map
abbrev Aar:=@List.drop_eq_getElem_cons
abbrev Aas:=@List.mem_cons_self
abbrev Aat:=@List.map_cons
abbrev Aau:=@List.getElem_of_mem
abbrev Aav:=@List.take_length
abbrev Aaw:=@List.pairwise_iff_getElem
abbrev Aax:=@List.mem_filter
abbrev Aay:=@Nat.le_of_ble_eq_true
abbrev Aaz:=@rA
abbrev Aba:=@List.nodup_cons
abbrev Abb:=@List.pairwise_append
abbrev Abc:=@List.eq_nil_of_length_eq_zero
abbrev Abd:=@Int.toNat_of_nonneg
abbrev Abe:=@Nat.ne_of_beq_eq_false
abbrev Abf:=@List.mem_range
abbrev Abg:=@Nat.zero_le
abbrev Abh:=@List.length_take
abbrev Abi:=@Nat.mul_le_mul_right
abbrev Abj:=@List.pairwise_cons
abbrev Abk:=@Option.isSome_iff_exists
abbrev Abl:=@rC
abbrev Abm:=@Nat.zero_add
abbrev Abn:=@Int.le_refl
abbrev Abo:=@List.length_cons
abbrev Abp:=@List.length_set
abbrev Abq:=@Nat.lt_of_lt_of_le
abbrev Abr:=@Alx
abbrev Abs:=@Option.some.inj
abbrev Abt:=@List.mem_append_left
abbrev Abv:=@Nat.mul_le_mul
abbrev Aby:=@Prod.ext
abbrev Abz:=@Nat.lt_of_not_le
abbrev Aca:=@List.mem_append_right
abbrev Acb:=@List.getElem?_map
abbrev Acd:=@Int.toNat_natCast
abbrev Ace:=@List.take_append_drop
abbrev Acf:=@List.take_append_of_le_length
abbrev Acg:=@List.pairwise_singleton
abbrev Ach:=@List.mem_of_find?_eq_some
abbrev Aci:=@List.nil_append
abbrev Acj:=@List.any_eq_true
abbrev Ack:=@List.mem_of_mem_take
abbrev Acl:=@List.take_append_getElem
abbrev Acm:=@List.length_singleton
abbrev Acn:=@List.flatMap_append
abbrev Aco:=@Bool.false_eq_true
abbrev Acp:=@List.filter_sublist
abbrev Acq:=@List.nodup_append
abbrev Acr:=@Nat.add_sub_cancel_left
abbrev Acs:=@List.getElem?_cons_succ
abbrev Acu:=@Option.getD_some
abbrev Acv:=@List.drop_append
abbrev Acw:=@Nat.lt_trichotomy
abbrev Acx:=@List.set_append_right
abbrev Acy:=@List.getElem?_eq_none
abbrev Acz:=@Nat.mul_one
abbrev Ada:=@Nat.mul_comm
abbrev Adb:=@List.length_eq_one_iff
abbrev Adc:=@List.foldl_append
abbrev Ade:=@xI
abbrev Adf:=@List.append_nil
abbrev Adg:=@List.find?_eq_some_iff_getElem
abbrev Adh:=@List.find?_eq_none
abbrev Adi:=@List.ext_getElem
abbrev Adk:=@Nat.add_mul
abbrev Adl:=@List.pairwise_map
abbrev Adm:=@List.head_eq_of_cons_eq
abbrev Adn:=@Option.map_some
abbrev Ado:=@List.length_nil
abbrev Adp:=@List.filterMap_cons
abbrev Adr:=@List.idxOf_lt_length_of_mem
abbrev Ads:=@Nat.add_assoc
abbrev Adt:=@List.take_append
abbrev Adu:=@Array.getElem?_eq_some_iff
abbrev Adv:=@xu
abbrev Adw:=@Bool.or_eq_true
abbrev Adx:=@Nat.succ_mul
abbrev Ady:=@Nat.lt_succ_of_lt
abbrev Adz:=@Bool.not_eq_true'
abbrev Aea:=@List.length_pos_iff
abbrev Aeb:=@List.take_zero
abbrev Aec:=@List.drop_length
abbrev Aed:=@Int.mul_le_mul_of_nonneg_right
abbrev Aee:=@List.map_nil
abbrev Aef:=@List.flatMap_singleton
abbrev Aeg:=@Int.lt_or_le
abbrev Aeh:=@Nat.min_eq_left
abbrev Aei:=@List.range_succ
abbrev Aej:=@Nat.mul_assoc
abbrev Aek:=@List.eq_nil_or_concat
abbrev Ael:=@Option.some.injEq
abbrev Aem:=@List.getElem?_set
abbrev Aen:=@Nat.zero_mul
abbrev Aeo:=@List.filter_cons
abbrev Aep:=@List.mem_take_iff_getElem
abbrev Aeq:=@Prod.mk.injEq
abbrev Aer:=@List.mem_filterMap
abbrev Aes:=@List.getElem_idxOf
abbrev Aet:=@Nat.le_mul_of_pos_right
abbrev Aew:=@List.reverse_cons
abbrev Aex:=@List.nodup_nil
abbrev Aey:=@List.idxOf_append
abbrev Aez:=@List.getElem?_eraseIdx
abbrev Afa:=@List.exists_of_findSome?_eq_some
abbrev Afb:=@List.drop_zero
abbrev Afc:=@List.drop_eq_nil_of_le
abbrev Aff:=@List.length_replicate
abbrev Afg:=@Nat.lt_succ_self
abbrev Afh:=@List.cons_append
abbrev Afi:=@List.map_id
abbrev Afj:=@List.drop_append_of_le_length
abbrev Afk:=@Array.size_replicate
abbrev Afl:=@List.foldl_cons
abbrev Afm:=@List.find?_cons
abbrev Afn:=@List.any_append
abbrev Afo:=@Array.getD_eq_getD_getElem?
abbrev Afq:=@UInt8.toNat_ofNat'
abbrev Afr:=@Nat.lt_of_le_of_lt
abbrev Afs:=@List.set_cons_succ
abbrev Aft:=@List.getElem?_drop
abbrev Afu:=@List.filter_append
abbrev Afw:=@List.getElem?_eq_none_iff
abbrev Afx:=@List.flatMap_cons
abbrev Afy:=@List.filter_congr
abbrev Afz:=@List.ext_getElem?
abbrev Agb:=@List.Pairwise.imp_of_mem
abbrev Agc:=@Option.bind_eq_some_iff
abbrev Agd:=@Nat.mod_eq_of_lt
abbrev Agk:=@Nat.le_of_lt
abbrev Agl:=@Nat.beq_refl
abbrev Agm:=@List.length_pos_of_mem
abbrev Agn:=@Int.not_lt
abbrev Ago:=@Nat.div_add_mod
abbrev Agr:=@List.findSome?_append
abbrev Ags:=@Bool.and_eq_false_iff
abbrev Agt:=@Nat.pow_le_pow_right
abbrev Agu:=@Nat.le_succ
abbrev Agv:=@List.range_eq_range'
abbrev Agw:=@List.mem_erase_of_ne
abbrev Agx:=@List.drop_take
abbrev Ahb:=@List.flatten_append
abbrev Ahc:=@Array.length_toList
abbrev Ahd:=@Bool.not_true
abbrev Ahs:=@Nat.eq_zero_or_pos
abbrev Aht:=@List.set_cons_zero
abbrev Ahu:=@List.getElem?_take
abbrev Aio:=@Nat.sub_self
abbrev Aip:=@List.length_range
abbrev Aiq:=@Array.all_eq_true_iff_forall_mem
abbrev Air:=@And.left
abbrev Ajh:=@Nat.le_of_not_lt
abbrev Aji:=@Nat.le_max_right
abbrev Ajj:=@List.length_drop
abbrev Akw:=@Option.map_none
abbrev Akx:=@Nat.le_max_left
abbrev Aky:=@Nat.le_antisymm
abbrev Akz:=@List.filter_map
abbrev Ala:=@List.cons.injEq
abbrev Alb:=@List.append_inj
abbrev Alc:=@Bool.eq_iff_iff
abbrev Ald:=@Option.isSome_eq_false_iff
abbrev Ale:=@List.take_take
abbrev Alf:=@List.findSome?_eq_none_iff
abbrev Alg:=@List.drop_left
abbrev Alh:=@Option.isNone_iff_eq_none
abbrev Ali:=@Bool.true_and
abbrev Alj:=@Bool.or_false
abbrev Alk:=@Bool.false_or
abbrev All:=@List.getLast?_singleton
abbrev Alm:=@List.getElem?_cons_zero
abbrev Aln:=@List.filter_cons_of_pos
abbrev Alo:=@List.filter_cons_of_neg
abbrev Alp:=@BitVec.eq_of_getLsbD_eq
theorem rf{α:Sort _}{a:α}:a=a:=rfl
end Go
namespace Go.GK
section
variable{a:Act}{n:Nat}{L:List (Nat×Ce)}
def lk:List (Nat×Ce)->Nat->Option Ce
 | [],_=>Dc
 |(k,v)::l,t=>match Hg k t with
  |true=>Ac v
  |false=>lk l t
structure Fr(a:Act)(n:Nat)(L:List (Nat×Ce)):Prop where
 defers:a.defers=[]
 size:a.tmps.size=n
 get:∀t v,lk L t=Ac v->a.tmps.getD t undef=v
theorem Fr.put(h:Fr a n L){d:Nat}(i:aT d n=Br)(v:Ce):Fr (a.put (Ac d) v) n ((d,v)::L):=by
 have f:d<n:=by simp_all
 refine⟨h.defers,by simp[Act.put,h.size],λt u b=>?_⟩;simp only[lk]at b;simp only[Act.put];cases c:Hg d t with
 |true=>
  have e:d=t:=AI c;subst e;have g:v=u:=by grind
  subst g;simp[h.size,f]
 |false=>
  rw[c]at b;have ne:d≠t:=Abe c;have:=h.get t u b;simp_all
def ev(L:List (Nat×Ce)):Er->Option Ce
 | .tmp t=>lk L t
 | .const v=>Ac v
 | .global g=>Ac (.pointer (Ac ⟨g,0,Dc⟩))
 | .func f=>Ac (.func (.func f) #[] #[])
theorem Fr.eval(h:Fr a n L){x:Er}{v:Ce}(b:ev L x=Ac v):a.eval x=v:=by
 cases x with
 |tmp t=>exact h.get t v b
 |const u=>grind[ev,Act.eval]
 |global g=>grind[ev,Act.eval]
 |func f=>grind[ev,Act.eval]
def evl(L:List (Nat×Ce)):List Er->Option (List Ce)
 | []=>Ac []
 |x::xs=>match ev L x,evl L xs with
  |some v,Ac vs=>Ac (v::vs)
  |_,_=>Dc
structure Hp where
 at_:Nat->Option Obj
 os:Os
 output:Array (Nat×ByteArray)
 tape:Nat->Question->Nat
end
def Hp.le(H a:Hp):Prop:=(∀b o,H.at_ b=Ac o->a.at_ b=Ac o)/\a.os=H.os/\a.output=H.output/\a.tape=H.tape
theorem Hp.le.refl(H:Hp):H.le H:=⟨λ_ _ h=>h,rfl,rfl,rfl⟩
theorem Hp.le.trans{A B C:Hp}(h:A.le B)(k:B.le C):A.le C:=⟨λb o x=>k.1 b o (h.1 b o x),k.2.1.trans h.2.1,k.2.2.1.trans h.2.2.1,k.2.2.2.trans h.2.2.2⟩
inductive Aw where
 |Af (b:Nat) (o:Obj)
 |row (v:Ce) (e:Gn) (size n:Nat) (xs:List Ce)
 |emp
 |own (b:Nat) (C:IK->Prop) (lt:∀w,C w->b<w.heap.size) (kept:∀w w' row,C w->w.grownBy w' row->row≠Ac b->C w')
 |Cr (v:Ce) (e:Gn) (n:Nat) (xs:List Ce) (e':Gn) (sz:Nat) (rows:List (Option (Nat×List Ce)))
def Aw.block:Aw->Option Nat
 | .Af b _=>Ac b
 | .row v .. =>v.ownBlock
 | .emp=>Dc
 | .own b .. =>Ac b
 | .Cr .. =>Dc
def Aw.has:Aw->Nat->Prop
 | .Af c _,b=>c=b
 | .row v ..,b=>v.ownBlock=Ac b
 | .emp,_=>False
 | .own c ..,b=>c=b
 | .Cr v _ _ xs _ _ a,b=>v.ownBlock=Ac b\/∃(i:Nat) (u:Ce) (m:Nat) (ys:List Ce),xs[i]?=Ac u/\a[i]?=Ac (Ac (m,ys))/\u.ownBlock=Ac b
theorem Ajw{r:Aw}{b:Nat}(h:r.block=Ac b):r.has b:=by cases r<;>simp_all [Aw.block,Aw.has]
theorem Afp{r:Aw}{b c:Nat}(h:r.block=Ac b)(k:r.has c):c=b:=by cases r<;>simp_all [Aw.block,Aw.has]
structure IA(w:IK)(v:Ce)(e:Gn)(n:Nat)(xs:List Ce)(e':Gn)(sz:Nat)(rows:List (Option (Nat×List Ce))):Prop where
 top:w.ownsRow 0 e 1 v n xs
 row:∀(i:Nat) (u:Ce) (m:Nat) (ys:List Ce),xs[i]?=Ac u->rows[i]?=Ac (Ac (m,ys))->w.ownsRow 0 e' sz u m ys
 one:∀(i j:Nat) (u u':Ce) (m m':Nat) (ys ys':List Ce) (b:Nat),xs[i]?=Ac u->rows[i]?=Ac (Ac (m,ys))->xs[j]?=Ac u'->rows[j]?=Ac (Ac (m',ys'))->u.ownBlock=Ac b->u'.ownBlock=Ac b->i=j
 out:∀(i:Nat) (u:Ce) (m:Nat) (ys:List Ce) (b:Nat),xs[i]?=Ac u->rows[i]?=Ac (Ac (m,ys))->u.ownBlock=Ac b->v.ownBlock≠Ac b
def Aw.ok(w:IK):Aw->Prop
 | .Af b o=>w.heap[b]?=Ac o
 | .row v e size n xs=>w.ownsRow 0 e size v n xs
 | .emp=>True
 | .own _ C _ _=>C w
 | .Cr v e n xs d sz a=>IA w v e n xs d sz a
section
variable{w:IK}{H:Hp}{O:List Aw}{r:Aw}{w':IK}{i b:Nat}{row:Option Nat}{r':Aw}
structure SH(w:IK)(H:Hp)(O:List Aw):Prop where
 MQ:∀b o,H.at_ b=Ac o->w.heap[b]?=Ac o
 os:w.os=H.os
 output:w.output=H.output
 tape:w.tape=H.tape
 ok:∀(i:Nat) (r:Aw),O[i]?=Ac r->r.ok w
 Iv:∀(i:Nat) (r:Aw) (b:Nat),O[i]?=Ac r->r.has b->H.at_ b=Dc
 nd:∀(i j:Nat) (r r':Aw) (b:Nat),O[i]?=Ac r->O[j]?=Ac r'->r.has b->r'.has b->i=j
theorem Aw.ok.lt(h:r.ok w)(a:r.has b):b<w.heap.size:=by
 cases r with
 |Af c o=>
  subst a;exact(Adu.1 h).1
 |row v e size n q=>exact(IK.ownsRow.lt h b a).2
 |emp=>trivial
 |own c C lt d=>
  subst a;exact lt w h
 |Cr v e n q t x f=>
  rcases a with a|⟨i,u,m,s,l,p,a⟩;· exact(IK.ownsRow.lt (IA.top h) b a).2
  ·exact(IK.ownsRow.lt (IA.row h i u m s l p) b a).2
theorem Aw.ok.grown(h:r.ok w)(c:w.grownBy w' row)(a:∀b,r.has b->row≠Ac b):r.ok w':=by
 cases r with
 |Af b o=>
  have g:=Aw.ok.lt h (b:=b) rfl;show w'.heap[b]?=Ac o;rw[c.block b g (λe=>a b rfl e.symm)];exact h
 |row v e size n x=>
  refine IK.ownsRow.kept h c ?_;cases d:v.ownBlock with
  |none=>simp
  |some b=>exact .inr (λe=>a b d e.symm)
 |emp=>trivial
 |own b C lt f=>exact f w w' row h c (a b rfl)
 |Cr v e n x y z l=>
  refine⟨IK.ownsRow.kept (IA.top h) c ?_,λi u m p j k=>IK.ownsRow.kept (IA.row h i u m p j k) c ?_,IA.one h,IA.out h⟩;· cases d:v.ownBlock with
   |none=>simp
   |some b=>exact .inr (λe=>a b (.inl d) e.symm)
  ·cases d:u.ownBlock with
   |none=>simp
   |some b=>exact .inr (λe=>a b (.inr ⟨i,u,m,p,j,k,d⟩) e.symm)
theorem SH.lt(h:SH w H O){o:Obj}(a:H.at_ b=Ac o):b<w.heap.size:=(Adu.1 (h.MQ b o a)).1
theorem SH.grown(h:SH w H O)(hg:w.grownBy w' Dc):SH w' H O where
 MQ b o hb:=by rw[hg.block b (h.lt hb) (by simp)];exact h.MQ b o hb
 os:=hg.os.trans h.os
 output:=hg.output.trans h.output
 tape:=hg.tape.trans h.tape
 ok i r hr:=(h.ok i r hr).grown hg (by simp)
 Iv:=h.Iv
 nd:=h.nd
theorem SH.drew(h:SH w H O):SH {w with drawn:=w.drawn+1} H O where
 MQ:=h.MQ
 os:=h.os
 output:=h.output
 tape:=h.tape
 ok i r hr:=by
  have:=h.ok i r hr;cases r with
  |own b C lt kept=>exact kept w _ Dc this ⟨rfl,rfl,rfl,Aaf _,λ_ _ _=>rfl⟩ (by simp)
  |Cr v e n xs e' sz rows=>
   have t:IA w v e n xs e' sz rows:=this;exact⟨t.top,t.row,t.one,t.out⟩
  |_=>trivial
 Iv:=h.Iv
 nd:=h.nd
theorem BH{α:Type}{x y:α}{l:List α}(h:(x::l)[i]?=Ac y):(i=0/\y=x)\/∃j,i=j+1/\l[j]?=Ac y:=by grind
theorem SH.push(h:SH w H O)(hg:w.grownBy w' Dc)(hr:r.ok w')(hnew:∀b,r.has b->w.heap.size<=b):SH w' H (r::O)where
 MQ b o hb:=by rw[hg.block b (h.lt hb) (by simp)];exact h.MQ b o hb
 os:=hg.os.trans h.os
 output:=hg.output.trans h.output
 tape:=hg.tape.trans h.tape
 ok i s hs:=by
  rcases BH hs with⟨rfl,rfl⟩|⟨j,rfl,hj⟩;· omega
  ·exact(h.ok j s hj).grown hg (by simp)
 Iv i s b hs hb:=by
  rcases BH hs with⟨rfl,rfl⟩|⟨j,rfl,hj⟩;· cases he:H.at_ b with
   |none=>rfl
   |some o=>have:=h.lt he;grind
  ·exact h.Iv j s b hj hb
 nd i j s s' b hi hj hb hb':=by
  rcases BH hi with⟨rfl,rfl⟩|⟨i',rfl,hi'⟩
  ·rcases BH hj with⟨rfl,rfl⟩|⟨j',rfl,hj'⟩;· rfl
   ·have:=(h.ok j' s' hj').lt hb';grind
  ·rcases BH hj with⟨rfl,rfl⟩|⟨j',rfl,hj'⟩;· have:=(h.ok i' s hi').lt hb;grind
   ·rw[h.nd i' j' s s' b hi' hj' hb hb']
theorem SH.alloc(h:SH w H O)(o:Obj):SH (w.alloc o) H (.Af w.heap.size o::O):=
 h.push (IK.grownBy_alloc w o Dc) (heap_alloc_new w o) (λb c=>by grind[Aw.has])
theorem SH.v7(h:SH w H O)(hi:O[i]?=Ac r)(m:∀b,row=Ac b->r.has b)(q:w.grownBy w' row)
  (D:r'.ok w') (p:∀b,r'.has b->r.has b\/w.heap.size<=b):SH w' H (O.set i r'):=by
 have key:∀j s,(O.set i r')[j]?=Ac s->(j=i/\s=r')\/(j≠i/\O[j]?=Ac s):=λj s f=>by grind
 have n:∀b,r'.has b->H.at_ b=Dc:=λb g=>by
  rcases p b g with g|g;· exact h.Iv i r b hi g
  ·cases C:H.at_ b with
   |none=>rfl
   |some o=>have:=h.lt C;omega
 refine⟨λb o l=>?_,q.os.trans h.os,q.output.trans h.output,q.tape.trans h.tape,λj s f=>?_,λj s b f c=>?_,λj k s u b f a c d=>?_⟩;· rw[q.block b (h.lt l) (λe=>by rw[h.Iv i r b hi (m b e.symm)]at l;grind)];exact h.MQ b o l
 ·rcases key j s f with⟨rfl,rfl⟩|⟨y,a⟩;· omega
  ·exact(h.ok j s a).grown q (λb p e=>y (h.nd j i s r b a hi p (m b e)))
 ·rcases key j s f with⟨rfl,rfl⟩|⟨y,a⟩;· grind
  ·exact h.Iv j s b a c
 ·rcases key j s f with⟨rfl,rfl⟩|⟨y,A⟩
  ·rcases key k u a with⟨rfl,rfl⟩|⟨B,v⟩;· rfl
   ·exfalso;rcases p b c with e|e;· exact B (h.nd k j u r b v hi d e)
    ·have:=(h.ok k u v).lt d;omega
  ·rcases key k u a with⟨rfl,rfl⟩|⟨B,v⟩
   ·exfalso;rcases p b d with e|e;· exact y (h.nd j k s r b A hi c e)
    ·have:=(h.ok j s A).lt c;omega
   ·exact h.nd j k s u b A v c d
theorem SH.set(h:SH w H O)(hi:O[i]?=Ac r)(c:w.grownBy w' r.block)
 (d:r'.ok w') (a:∀b,r'.has b->r.has b\/w.heap.size<=b):SH w' H (O.set i r'):=h.v7 hi (λ_ h=>Ajw h) c d a
def Hp.put(H:Hp)(b:Nat)(o:Obj):Hp:= {H with at_:=λc=>if c=b then Ac o else H.at_ c}
end
section
variable{w:IK}{H:Hp}{O:List Aw}
theorem SH.drop(h:SH w H O)(i:Nat):SH w H (O.eraseIdx i)where
 MQ:=h.MQ
 os:=h.os
 output:=h.output
 tape:=h.tape
 ok j r hr:=by
  rw[Aez]at hr;split at hr;· exact h.ok _ _ hr
  ·exact h.ok _ _ hr
 Iv j r b hr hb:=by
  rw[Aez]at hr;split at hr;· exact h.Iv _ _ b hr hb
  ·exact h.Iv _ _ b hr hb
 nd j k r r' b hr hr' hb hb':=by
  rw[Aez]at hr hr';split at hr<;>split at hr';· exact h.nd _ _ _ _ b hr hr' hb hb'
  ·have:=h.nd _ _ _ _ b hr hr' hb hb';omega
  ·have:=h.nd _ _ _ _ b hr hr' hb hb';omega
  ·have:=h.nd _ _ _ _ b hr hr' hb hb';omega
theorem SH.PF(h:SH w H O){i:Nat}{r:Aw}(hi:O[i]?=Ac r){b:Nat}(g:r.has b){o:Obj}(m:w.heap[b]?=Ac o):
  H.le (H.put b o)/\SH w (H.put b o) (O.eraseIdx i):=by
 have d:=h.Iv i r b hi g;have k:=h.drop i;refine⟨⟨λc l a=>?_,rfl,rfl,rfl⟩,⟨λc l a=>?_,h.os,h.output,h.tape,k.ok,λj s c f a=>?_,k.nd⟩⟩
 ·grind[Hp.put]
 ·simp only[Hp.put]at a;by_cases e:c=b;· grind
  ·simp[e]at a;exact h.MQ c l a
 ·simp only[Hp.put];have:c≠b:=λe=>by
   subst e;rw[Aez]at f;split at f;· have:=h.nd _ _ _ _ c f hi a g;omega
   ·have:=h.nd _ _ _ _ c f hi a g;omega
  simp[this,k.Iv j s c f a]
theorem SH.pick{a:List Aw}(h:SH w H O)(f:Nat->Nat)(hf:∀i r,a[i]?=Ac r->O[f i]?=Ac r)
  (hinj:∀i j,i<a.length->j<a.length->f i=f j->i=j):SH w H a where
 MQ:=h.MQ
 os:=h.os
 output:=h.output
 tape:=h.tape
 ok i r hr:=h.ok _ _ (hf i r hr)
 Iv i r b hr hb:=h.Iv _ _ b (hf i r hr) hb
 nd i j r r' b hr hr' hb hb':=hinj i j (No.1 hr).1 (No.1 hr').1 (h.nd _ _ _ _ b (hf i r hr) (hf j r' hr') hb hb')
def At(Q:Exit->Act->IK->Prop)(e:Exit)(n:Nat)(L:List (Nat×Ce))(H:Hp)(O:List Aw):Prop:= ∀a w,Fr a n L->SH w H O->Q e a w
def Wp(P:GO)(c:Code)(Q:Exit->Act->IK->Prop)(n:Nat)(L:List (Nat×Ce))(H:Hp)(O:List Aw):Prop:= ∀a w,Fr a n L->SH w H O->c.wp P Q a w
def Fe(P:GO)(c:Array K5)(Q:Exit->Act->IK->Prop)(b:List K5)(n:Nat)(L:List (Nat×Ce))(H:Hp)(O:List Aw):Prop:= ∀a w,Fr a n L->SH w H O->wpList P c Q b a w
end
section
variable {P : GO} {Q Q2 : Exit -> Act -> IK -> Prop} {n : Nat} {L L' : List (Nat × Ce)} {H : Hp} {O : List Aw}
section
variable{y x:Code}{c:Er}{a:Act}{v:Ce}{b:List K5}{d:Array K5}{T:Gn}
theorem Ahk(h:Wp P y Q n L H O):At (Exit.then (y.wp P Q) Q2) .normal n L H O:=h
theorem Wp.seq(h:Wp P x (Exit.then (y.wp P Q) Q) n L H O):Wp P (.seq x y) Q n L H O:=λa w b c=>wp_seq (h a w b c)
theorem Wp.skip(h:At Q .normal n L H O):Wp P .skip Q n L H O:=λa w b c=>wp_skip (h a w b c)
theorem Ajk(e:ev L c=Ac (.bool Br))(ht:Wp P x Q n L H O):Wp P (.cond c x y) Q n L H O:=
 λa w b d=>wp_cond_true (b.eval e) (ht a w b d)
theorem Ais(e:ev L c=Ac (.bool Ak))(ht:Wp P y Q n L H O):Wp P (.cond c x y) Q n L H O:=
 λa w b d=>wp_cond_false (b.eval e) (ht a w b d)
theorem Wp.region{id:Nat}{l:List K5}(h:Fe P l.toArray Q l n L H O):Wp P (.region id l.toArray Ak) Q n L H O:=
 λa w b c=>wp_region_lit (h a w b c)
theorem Fe.nil{a:Array K5}(h:At Q .normal n L H O):Fe P a Q [] n L H O:=h
def Aq(P:GO)(op:Op)(T:Gn)(E:Er->Option Ce)(H:Hp)(O:List Aw)(v:Ce):Prop:= ∀(a:Act) (w:IK) (o:K5),o.op=op->o.type=T->(∀x u,E x=Ac u->a.eval x=u)->SH w H O->o.quietAt P a (λw'=>SH w' H O) w v
theorem Aeu{o:K5}{w:IK}{C:IK->Prop}{next:Act->IK->Prop}
  (b:o.quietAt P a C w v) (c:C w) (h:∀w',C w'->next (a.put o.dst v) w'):o.wp P a w next Q:=by
 unfold K5.quietAt K5.quietUpon at b;unfold K5.wp;split at b<;>rename_i heq<;>(try rw[heq]);· obtain⟨rfl,rfl⟩:=b;exact h _ c
 ·obtain⟨rfl,rfl⟩:=b;exact h _ c
 ·obtain⟨rfl,b⟩:=b;refine b.mono ?_;grind
 grind
def BP(P:GO)(op:Op)(T:Gn)(E:Er->Option Ce)(H:Hp)(O:List Aw)(R:Ce->Hp->List Aw->Prop):Prop:= ∀(a:Act) (w:IK) (o:K5) (next:Act->IK->Prop) (Q:Exit->Act->IK->Prop),o.op=op->o.type=T->(∀x u,E x=Ac u->a.eval x=u)->SH w H O->(∀v w' b c,H.le b->R v b c->SH w' b c->next (a.put o.dst v) w')->o.wp P a w next Q
theorem Fe.op{c:Array K5}{d:Tmp}{op:Op}{pos:String}{i:Array Edge}
  (h:Aq P op T (ev L) H O v) (l:aT d n=Br) (k:Fe P c Q b n ((d,v)::L) H O):
  Fe P c Q ({dst:=Ac d,op,type:=T,pos,after:=i,guard:=Dc} ::b) n L H O:=λa w f g=>
 wpList_plain rfl λK j=>Aeu (h a w _ rfl rfl (λ_ _ m=>f.eval m) g) g λo e=>j _ _ (k _ _ (f.put l v) e)
theorem Fe.opS0{op:Op}{pos:String}{j:Array Edge}{R:Ce->Hp->List Aw->Prop}
  (h:BP P op T (ev L) H O R) (k:∀v c e,H.le c->R v c e->Fe P d Q b n L c e):
  Fe P d Q ({dst:=Dc,op,type:=T,pos,after:=j,guard:=Dc} ::b) n L H O:=λa w i o=>
 wpList_plain rfl λK l=>h a w _ K Q rfl rfl (λ_ _ p=>i.eval p) o λv q c e f m g=>l _ _ (k v c e f m _ _ i g)
def BN(a:Array K5)(j:Nat):Option Tmp:=(a[j]?).bind (·.dst)
theorem Gm{j:Nat}{t:Tmp}{b:Bool}(e:BN d j=Ac t)(c:a.tmps.getD t undef= .bool b):yielded d a.tmps j=Ac b:=by
 unfold BN at e;unfold yielded;have:a.tmps[t]?=Ac (.bool b):=by rw[Afo]at c;grind[undef]
 grind
end
end
abbrev SP:=Hp->Ce->Prop
def names(a:Array K5)(o:K5):List Tmp:=o.dst.toList++o.looksAt a
def meets(a:Array K5)(x y:K5):Bool:=
 (match x.dst with|some d=>(names a y).any (Hg d)|none=>Ak)||(match y.dst with|some d=>(names a x).any (Hg d)|none=>Ak)
def GS:Nat->List K5->Bool
 |_,[]=>Br
 |i,o::os=>(o.after.all λe=> !Region.binds .any e||aT e.on i)&&GS (i+1) os
def V_(o:K5)(i:Nat):Bool:=o.after.any λe=>qw .any e&&Hg e.on i
def nC(a:Array K5):Nat->K5->Nat->Bool
 |0,o,i=>V_ o i
 |f+1,o,i=>V_ o i||o.after.any λe=>qw .any e&&((a[e.on]?).map λx=>nC a f x i).getD Ak
def T7(a:Array K5)(k j:Nat)(o:K5):Nat->List K5->Bool
 |_,[]=>Br
 |i,x::xs=>(iJ j i||((!(meets a x o)&&aT j k)||nC a 8 o i))&&T7 a k j o (i+1) xs
def FL(l:List K5)(a:Array K5)(k:Nat):Nat->List K5->Bool
 |_,[]=>Br
 |j,o::os=>T7 a k j o 0 l&&FL l a k (j+1) os
theorem Ni:∀ {l:List K5} {i:Nat},GS i l=Br->∀(j:Nat) (o:K5),l[j]?=Ac o->∀e∈o.after,qw .any e=Br->e.on<i+j
 | [],_,_,j,o,h=>by grind
 |x::f,i,c,j,o,h=>by
  simp only[GS,AS]at c;cases j with
  |zero=>
   simp at h;subst h;intro e d a;have:=(Aiq.1 c.1) e d;simp_all
  |succ j=>
   intro e d a;have:=Ni c.2 j o (by grind) e d a;omega
def cur(l:List K5)(Φ:Nat->SP)(S:Nat->SP)(a:Nat->Bool)(t:Nat):Nat->SP
 |0=>Φ t
 |i+1=>if a i=Br/\((l[i]?).bind (·.dst))=Ac t then S i else cur l Φ S a t i
section
variable {P : GO} {Q : Exit -> Act -> IK -> Prop}
section
variable{a:Array K5}{o:K5}{t:Tmp}
theorem EZ(h:t∈o.looksAt a):(names a o).any (Hg t)=Br:=by simp_all[names]
theorem Kp(h:o.dst=Ac t):(names a o).any (Hg t)=Br:=by simp[names,h]
def AB(p:Nat->Bool):Nat->Nat
 |0=>0
 |m+1=>AB p m+if p m then 0 else 1
theorem S3{p:Nat->Bool} :∀ {m:Nat},AB p m=0->∀i,i<m->p i=Br
 |0,_,i,h=>by omega
 |m+1,a,i,h=>by
  simp only[AB]at a;by_cases e:i=m;· grind
  ·exact S3 (p:=p) (m:=m) (by omega) i (by omega)
theorem S4{p q:Nat->Bool} :∀ {m:Nat},(∀i,i<m->p i=q i)->AB p m=AB q m
 |0,_=>rfl
 |m+1,h=>by simp only[AB];rw[h m (by omega),S4 λi a=>h i (by omega)]
theorem Ws{p q:Nat->Bool}{i:Nat} :∀ {m:Nat},i<m->p i=Ak->q i=Br->(∀j,j≠i->q j=p j)->AB p m=AB q m+1
 |0,h,_,_,_=>by omega
 |m+1,h,b,c,a=>by
  simp only[AB];by_cases e:i=m;· grind[S4]
  ·rw[Ws (m:=m) (by omega) b c a,a m (λx=>e x.symm)];omega
end
end
section
variable{w:IK}{size:Nat}{H:Hp}{t:Gn}{P:GO}{O:List Aw}{u v:Ce}{n i bytes:Nat}{z:Ce}{e:Gn}{d:TypeDesc}{b:Hp}{p:Ce}
inductive SV where
 |is (v:Ce)
 |sat (p:SP)
theorem AY(h:P.underlying t=Ac d):(underlying t).run P w= .ok d w:=run_underlying h w
structure TI(P:GO)(t:Gn)(size bytes:Nat)(z:Ce):Prop where
 ex:∃i,P.info? t=Ac i/\i.size=size/\i.bytes=bytes/\i.zero=Ac z
theorem TI.of(h:(P.info? t).map (λi=>(i.size,i.bytes,i.zero))=Ac (size,bytes,Ac z)):TI P t size bytes z:=by
 cases a:P.info? t with
 |none=>grind
 |some i=>simp[a]at h;exact⟨i,a,h.1,h.2.1,h.2.2⟩
theorem TI.sizeOf(h:TI P t size bytes z):(r_ t).run P w= .ok size w:=by obtain⟨i,b,a,_⟩:=h.ex;simp_all[r_,typeInfo]
theorem TI.zeroValue(h:TI P t size bytes z):(Go.zeroValue t).run P w= .ok z w:=by obtain⟨i,b,_,_,a⟩:=h.ex;simp_all[Go.zeroValue,typeInfo]
def DP:TypeDesc->Bool
 | .struct _=>Br
 | .array _ _=>Br
 |_=>Ak
theorem Cm(h:P.underlying t=Ac d):(isAgg t).run P w= .ok (DP d) w:=by simp[isAgg,AY h];cases d<;>simp[DP]
def ptr(b off:Nat):Ce:= .pointer (Ac ⟨b,off,Dc⟩)
def AX(v:Ce)(k:Nat):Ce:=match v with
 | .slice (Ac a) _ _=> .pointer (Ac (a.add k))
 |_=>undef
theorem De(a:Addr)(m n:Nat):(a.add m).add n=a.add (m+n):=by grind[xX]
def DX(H:Hp)(p:Ce)(u:Ce):Prop:= ∃a cur t b,p= .pointer (Ac a)/\a.spot=Dc/\H.at_ a.block=Ac (.cells cur t b)/\cur[a.off]?=Ac u
def Tz(v:Ce)(n:Nat):Prop:=(v= .slice Dc 0 0/\n=0)\/∃a cap,v= .slice (Ac a) n cap/\n<=cap
structure Sl(H:Hp)(v:Ce)(size n:Nat)(xs:List Ce):Prop where
 len:xs.length=n*size
 sl:Tz v n
 cells:∀j u,xs[j]?=Ac u->DX H (AX v j) u
theorem DX.mono(h:H.le b)(i:DX H p u):DX b p u:=by obtain⟨a,cur,t,c,d,e,f,g⟩:=i;exact⟨a,cur,t,c,d,e,h.1 _ _ f,g⟩
theorem Sl.mono(h:H.le b){xs:List Ce}(a:Sl H v size n xs):Sl b v size n xs:=
 ⟨a.len,a.sl,λj u c=>(a.cells j u c).mono h⟩
theorem Sl.nil(H:Hp)(size:Nat):Sl H (.slice Dc 0 0) size 0 []:=⟨by simp, .inl ⟨rfl,rfl⟩,λj u h=>by grind⟩
theorem DX.cell(g:SH w H O)(f:DX H p u):∃a,p= .pointer (Ac a)/\w.cell? a=Ac u:=by obtain⟨a,cur,t,h,b,c,d,e⟩:=f;exact⟨a,b,by simp[IK.cell?,g.MQ _ _ d,c,e]⟩
theorem SH.LU(c:SH w H O){B:Nat}{cs:Array Ce}{b:Nat×Nat}(hi:O[i]?=Ac (.Af B (.cells cs t b))){off:Nat}(d:cs[off]?=Ac u):
  w.cell? ⟨B,off,Dc⟩=Ac u:=by
 have:=c.ok i _ hi;grind[Aw.ok,IK.cell?]
theorem SH.fK(f:SH w H O){xs:List Ce}(hi:O[i]?=Ac (.row v e size n xs)){j:Nat}(c:xs[j]?=Ac u):
  ∃a,AX v j= .pointer (Ac a)/\a.spot=Dc/\v.ownBlock=Ac a.block/\w.cell? a=Ac u/\w.frozen? a=Ak:=by
 have h:=f.ok i _ hi;rcases h.2 with⟨rfl,rfl⟩|⟨g,cap,cur,rfl,_,d,_,_,_,b⟩;· have:xs=[]:=Abc (by simpa using h.1);grind
 ·have:=h.cells (g:=g) rfl j u c;rw[rD]at this;refine⟨⟨g,0+j,Dc⟩,by grind[AX,rD],rfl,rfl,this,?_⟩;grind[IK.frozen?]
theorem SH.IH(b:SH w H O){xs:List Ce}(hi:O[i]?=Ac (.row v e size n xs)):Tz v n/\xs.length=n*size:=by
 have h:=b.ok i _ hi;refine⟨?_,h.1⟩;rcases h.2 with⟨rfl,rfl⟩|⟨g,cap,cur,rfl,_,_,a,_⟩;· exact .inl ⟨rfl,rfl⟩
 ·exact .inr ⟨_,_,rf,a⟩
theorem SH.freeze(f:SH w H O){xs:List Ce}(hi:O[i]?=Ac (.row v e size n xs)):
  ∃d,H.le d/\SH w d (O.eraseIdx i)/\Sl d v size n xs:=by
 have h:=f.ok i _ hi;rcases h.2 with⟨rfl,rfl⟩|⟨g,cap,cur,rfl,_,o,p,_,m,a⟩;· have:xs=[]:=Abc (by simpa using h.1);subst this;exact⟨H,Hp.le.refl H,f.drop i,Sl.nil H size⟩
 ·obtain⟨k,l⟩:=f.PF hi (b:=g) rfl o;refine⟨_,k,l,h.1, .inr ⟨_,_,rfl,p⟩,λj u c=>⟨⟨g,0+j,Dc⟩,cur,e,(0,0),by grind[AX,rD],rfl,by simp[Hp.put],?_⟩⟩;grind
end
section
variable {P : GO} {T : Gn} {E : Er -> Option Ce} {H : Hp} {O : List Aw}
section
variable{v:Ce}{x c y:Er}
theorem Aq.Ap{op:Op}(h:∀(a:Act) (w:IK) (o:K5),o.op=op->o.type=T->(∀x u,E x=Ac u->a.eval x=u)->SH w H O->(Kr a.eval o).run P w= .ok (.value v) w):Aq P op T E H O v:=by intro a w o d b c e;grind[K5.quietAt,K5.quietUpon]
theorem Aq.move(e:E x=Ac v):Aq P (.move x) T E H O v:= .Ap λa w o d _ c _=>by simp_all[Kr]
theorem Aq.assign(e:E x=Ac v):Aq P (.assign x) T E H O v:= .Ap λa w o d _ c _=>by simp_all[Kr]
theorem Akb(e:E c=Ac (.bool Br))(g:E x=Ac v):Aq P (.pick c x y) T E H O v:= .Ap λa w o f _ d _=>by simp_all[Kr,asBool]
theorem Aka(e:E c=Ac (.bool Ak))(g:E y=Ac v):Aq P (.pick c x y) T E H O v:= .Ap λa w o f _ d _=>by simp_all[Kr,asBool]
end
section ints
variable {k : Lm} {x y : Er} {m n : Int} {Tx Ty : Gn}
section
variable{s d:Gn}{ds:TypeDesc}
theorem Ain(e:E x=Ac (.int k m))(f:E y=Ac (.int k n)):Aq P (.binOp .add Tx x y Ty) T E H O (.int k (k.wrap (m+n))):= .Ap λa w o d _ c _=>by simp_all[Kr,eqGuard,binOp,Op.intArith]
theorem Aie(e:E x=Ac (.int k m))(f:E y=Ac (.int k n)):Aq P (.binOp .sub Tx x y Ty) T E H O (.int k (k.wrap (m-n))):= .Ap λa w o d _ c _=>by simp_all[Kr,eqGuard,binOp,Op.intArith]
theorem Aij(e:E x=Ac (.int k m))(f:E y=Ac (.int k n)):Aq P (.binOp .mul Tx x y Ty) T E H O (.int k (k.wrap (m*n))):= .Ap λa w o d _ c _=>by simp_all[Kr,eqGuard,binOp,Op.intArith]
theorem DZ{k:Lm}{n:Int}(h:k.min<=n/\n<=k.max):k.wrap n=n:=by cases k<;>simp[Lm.min,Lm.max,Lm.signed,Lm.bits]at h<;>simp[Lm.wrap,Lm.signed,Lm.bits]<;>omega
theorem UD(h: -9223372036854775808<=n/\n<=9223372036854775807):Lm.i64.min<=n/\n<=Lm.i64.max:=by trivial
theorem ra(h:0<=n/\n<=255):Lm.u8.min<=n/\n<=Lm.u8.max:=by trivial
theorem Aq.add(a:E x=Ac (.int k m))(b:E y=Ac (.int k n))(h:k.min<=m+n/\m+n<=k.max):Aq P (.binOp .add Tx x y Ty) T E H O (.int k (m+n)):=by have:=Ain (P:=P) (T:=T) (H:=H) (O:=O) (Tx:=Tx) (Ty:=Ty) a b;grind[DZ]
theorem Aq.sub(a:E x=Ac (.int k m))(b:E y=Ac (.int k n))(h:k.min<=m-n/\m-n<=k.max):Aq P (.binOp .sub Tx x y Ty) T E H O (.int k (m-n)):=by have:=Aie (P:=P) (T:=T) (H:=H) (O:=O) (Tx:=Tx) (Ty:=Ty) a b;grind[DZ]
theorem Aq.mul(a:E x=Ac (.int k m))(b:E y=Ac (.int k n))(h:k.min<=m*n/\m*n<=k.max):Aq P (.binOp .mul Tx x y Ty) T E H O (.int k (m*n)):=by have:=Aij (P:=P) (T:=T) (H:=H) (O:=O) (Tx:=Tx) (Ty:=Ty) a b;grind[DZ]
theorem Aq.eql(e:E x=Ac (.int k m))(f:E y=Ac (.int k n)):Aq P (.binOp .eql Tx x y Ty) T E H O (.bool (Ds (m=n))):= .Ap λa w o d _ c _=>by simp[Kr,d,c x _ e,c y _ f,eqGuard,binOp,Op.intCmp];rfl
theorem Aq.neq(e:E x=Ac (.int k m))(f:E y=Ac (.int k n)):Aq P (.binOp .neq Tx x y Ty) T E H O (.bool (Ds (m≠n))):= .Ap λa w o d _ c _=>by simp[Kr,d,c x _ e,c y _ f,eqGuard,binOp,Op.intCmp];rfl
theorem Aq.lss(e:E x=Ac (.int k m))(f:E y=Ac (.int k n)):Aq P (.binOp .lss Tx x y Ty) T E H O (.bool (Ds (m<n))):= .Ap λa w o d _ c _=>by simp_all[Kr,eqGuard,binOp,Op.intCmp]
theorem Aq.leq(e:E x=Ac (.int k m))(f:E y=Ac (.int k n)):Aq P (.binOp .leq Tx x y Ty) T E H O (.bool (Ds (m<=n))):= .Ap λa w o d _ c _=>by simp_all[Kr,eqGuard,binOp,Op.intCmp]
theorem Aq.gtr(e:E x=Ac (.int k m))(f:E y=Ac (.int k n)):Aq P (.binOp .gtr Tx x y Ty) T E H O (.bool (Ds (n<m))):= .Ap λa w o d _ c _=>by simp_all[Kr,eqGuard,binOp,Op.intCmp]
theorem Aq.geq(e:E x=Ac (.int k m))(f:E y=Ac (.int k n)):Aq P (.binOp .geq Tx x y Ty) T E H O (.bool (Ds (n<=m))):= .Ap λa w o d _ c _=>by simp_all[Kr,eqGuard,binOp,Op.intCmp]
theorem Aja{c:Lm}(i:P.underlying s=Ac ds)(f:P.underlying d=Ac (.int c))(j:E x=Ac (.int k m)):Aq P (.convert s d x) T E H O (.int c (c.wrap m)):= .Ap λa w o h _ g _=>by simp[Kr,h,g x _ j,convert,AY i,AY f,Conv.intToInt]
theorem Aq.conv{a:Lm}(c:P.underlying s=Ac ds)(b:P.underlying d=Ac (.int a))(e:E x=Ac (.int k m))(h:a.min<=m/\m<=a.max):Aq P (.convert s d x) T E H O (.int a m):=by have:=Aja (P:=P) (T:=T) (H:=H) (O:=O) c b e;grind[DZ]
end
end ints
section words
variable {x y : Er} {Tx Ty : Gn}
section
variable{k:Lm}{a:BitVec 64}{n:Nat}
def KW(a:BitVec 64):Ce:= .int .u64 a.toNat
theorem shift_shl(a:BitVec 64)(k:Lm)(n:Nat):Op.shift .shl .u64 a.toNat k n=pure (KW (a<<<n)):=by
 have b:¬((n:Int)<0):=by omega
 have key:∀j:Nat,Lm.u64.wrap ((a.toNat:Int)*2^j)=((a.toNat*2^j %2^64:Nat):Int):=λj=>by rfl
 unfold Op.shift;show(pure (.int .u64 (Lm.u64.wrap ((a.toNat:Int)*2^ (min n 64)))):Sem Ce)=_;rw[key,KW,BitVec.toNat_shiftLeft,Nat.shiftLeft_eq];by_cases h:n<=64;· grind
 ·have c:a.toNat*2^n %2^64=0:=by
   rw[show n=64+(n-64) by omega,Nat.pow_add,<-Aej,Nat.mul_right_comm,Nat.mul_mod_left]
  grind
theorem shift_shr(a:BitVec 64)(k:Lm)(n:Nat):Op.shift .shr .u64 a.toNat k n=pure (KW (a>>>n)):=by
 have c:¬((n:Int)<0):=by omega
 have key:∀j:Nat,(a.toNat:Int).fdiv (2^j)=((a.toNat/2^j:Nat):Int):=λj=>by grind
 unfold Op.shift;show(pure (.int .u64 ((a.toNat:Int).fdiv (2^ (min n 64)))):Sem Ce)=_;rw[key,KW,BitVec.toNat_ushiftRight,Nat.shiftRight_eq_div_pow];by_cases h:n<=64;· grind
 ·rw[Nat.min_eq_right (by omega)];have d:a.toNat/2^n=0:=Nat.div_eq_of_lt (Abq a.isLt (Agt (by simp) (by omega)));rw[d,Nat.div_eq_of_lt a.isLt]
theorem Aig(e:E x=Ac (KW a))(f:E y=Ac (.int k (n:Int))):Aq P (.binOp .shl Tx x y Ty) T E H O (KW (a<<<n)):= .Ap λg w o d _ c _=>by simp_all[KW,Kr,eqGuard,binOp,shift_shl]
theorem Aif(e:E x=Ac (KW a))(f:E y=Ac (.int k (n:Int))):Aq P (.binOp .shr Tx x y Ty) T E H O (KW (a>>>n)):= .Ap λg w o d _ c _=>by simp_all[KW,Kr,eqGuard,binOp,shift_shr]
end
end words
section
variable{x:Er}{t:Gn}{v:Ce}{e:Gn}{bytes:Nat}{z:Ce}{d:TypeDesc}{w:IK}{y:Er}{i n size:Nat}{Tx:Gn}{b:Bool}{vs:List Ce}{a:Bool}{B off:Nat}{k:Lm}{cs:Array Ce}
theorem Aq.not(e:E x=Ac (.bool b)):Aq P (.unOp .not Tx x) T E H O (.bool (!b)):= .Ap λf w o d _ c _=>by simp_all[Kr,Op.unary]
theorem Ml(ht:P.underlying Tx=Ac .bool):(rY Tx (.bool a) (.bool b)).run P w= .ok (a==b) w:=by
 have h:∀d,(lj (d+1) Tx (.bool a) (.bool b)).run P w= .ok (a==b) w:=λd=>by simp[lj,AY ht]
 grind[rY,Alu]
theorem Ajg{Ty:Gn}(ht:P.underlying Tx=Ac .bool)(f:E x=Ac (.bool a))(g:E y=Ac (.bool b)):Aq P (.binOp .eql Tx x y Ty) T E H O (.bool (a==b)):= .Ap λh w o e _ d _=>by simp_all[Kr,eqGuard,binOp,Ml]
theorem Aje{Ty:Gn}(ht:P.underlying Tx=Ac .bool)(f:E x=Ac (.bool a))(g:E y=Ac (.bool b)):Aq P (.binOp .neq Tx x y Ty) T E H O (.bool (!(a==b))):= .Ap λh w o e _ d _=>by simp_all[Kr,eqGuard,binOp,Ml]
theorem Aq.extract{vs:Array Ce}(e:E x=Ac (.tuple vs))(hi:vs[i]?=Ac v):Aq P (.extract x i) T E H O v:= .Ap λf w o d _ c _=>by simp_all[Kr,Instr.extract]
theorem Aq.len(ht:P.underlying t=Ac (.slice e))(h:E x=Ac v)(f:Tz v n):Aq P (.call {callee:= .builtin .len,args:= #[x],argTypes:= #[t]}) T E H O (.int .i64 n):= .Ap λi w o g _ d _=>by rcases f with⟨rfl,rfl⟩|⟨a,cap,rfl,_⟩<;>simp[Kr,g,d x _ h,resolve,invoke,builtin,Builtin.len_,AY ht,goInt]
theorem Akm{s:ByteArray}(ht:P.underlying t=Ac .string)(e:E x=Ac (.string s)):Aq P (.call {callee:= .builtin .len,args:= #[x],argTypes:= #[t]}) T E H O (.int .i64 s.size):= .Ap λf w o d _ c _=>by simp[Kr,d,c x _ e,resolve,invoke,builtin,Builtin.len_,AY ht,goInt]
theorem Aq.wV{len off':Nat}{i:Int}(ht:P.underlying t=Ac (.array len e))(d:TI P e size bytes z)(j:E x=Ac (ptr B off))(l:E y=Ac (.int k i))
  (h:0<=i/\i<len) (c:off+i.toNat*size=off'):Aq P (.indexAddr t x y) T E H O (ptr B off'):= .Ap λm w o g _ f _=>by
 simp only[ptr]at*;subst c;simp[Kr,g,f x _ j,f y _ l,Instr.indexAt,asIntOf,AY ht,nI,h,d.sizeOf,xX]
theorem Agf{i:Int}(ht:P.underlying t=Ac (.slice e))(d:TI P e size bytes z)(l:E x=Ac v)(g:Tz v n)(m:E y=Ac (.int k i))
  (h:0<=i/\i<n):Aq P (.indexAddr t x y) T E H O (AX v (i.toNat*size)):= .Ap λp w o j _ f _=>by
 rcases g with⟨rfl,rfl⟩|⟨a,cap,rfl,_⟩;· omega
 ·simp[Kr,j,f x _ l,f y _ m,Instr.indexAt,asIntOf,AY ht,h,d.sizeOf,AX]
theorem Akc{d:Gn}{i:Int}{xs:List Ce}{s j:Nat}(ht:P.underlying t=Ac (.slice e))(b:TI P e size bytes z)(p:E x=Ac v)(l:O[j]?=Ac (.row v d s n xs))(q:E y=Ac (.int k i))
 (h:0<=i/\i<n):Aq P (.indexAddr t x y) T E H O (AX v (i.toNat*size)):=λa w o m f g c=>Agf (H:=H) (O:=O) ht b p (c.IH l).1 q h a w o m f g c
theorem run_loadCells{P:GO}{w:IK}{a:Addr} :∀ {vs:List Ce} {i:Nat} {acc:Array Ce},(∀j u,vs[j]?=Ac u->w.cell? (a.add (i+j))=Ac u)->
  (loadCellsFrom a i vs.length acc).run P w= .ok (acc++vs.toArray) w
 | [],i,acc,_=>by rfl
 |v::vs,i,acc,h=>by
  have b:=h 0 v rfl;have d:=run_loadCells (P:=P) (w:=w) (a:=a) (vs:=vs) (i:=i+1) (acc:=acc.push v) (λj u c=>by have:=h (j+1) u (by grind);grind);simp_all[loadCellsFrom]
theorem Dq{a:Addr}(ht:P.underlying t=Ac d)(b:DP d=Ak)(h:w.cell? a=Ac v):(loadVar t a).run P w= .ok v w:=by simp_all[loadVar,Cm]
theorem Dr{a:Addr}(ht:P.underlying t=Ac d)(c:DP d=Br)(b:TI P t vs.length bytes z)(h:∀j u,vs[j]?=Ac u->w.cell? (a.add j)=Ac u):(loadVar t a).run P w= .ok (.agg vs.toArray) w:=by have:=run_loadCells (P:=P) (w:=w) (a:=a) (vs:=vs) (i:=0) (acc:= #[]) (λj u e=>by grind);simp[loadVar,Cm ht,c,b.sizeOf,loadCells,this]
theorem Agg{m:Gn}{f:Nat×Nat}(ht:P.underlying t=Ac d)(g:DP d=Ak)(c:E x=Ac (ptr B off))(hi:O[i]?=Ac (.Af B (.cells cs m f)))(l:cs[off]?=Ac v):
  Aq P (.load t x) T E H O v:= .Ap λn w o j _ h k=>by
 simp only[ptr]at c;simp[Kr,j,h x _ c,Alq,nI,Dq ht g (k.LU hi l)]
theorem Akp{r:Gn}{h:Nat×Nat}(ht:P.underlying t=Ac d)(k:DP d=Br)(e:TI P t vs.length bytes z)(f:E x=Ac (ptr B off))(hi:O[i]?=Ac (.Af B (.cells cs r h)))
  (q:∀j u,vs[j]?=Ac u->cs[off+j]?=Ac u):Aq P (.load t x) T E H O (.agg vs.toArray):= .Ap λs w o n _ l p=>by
 simp only[ptr]at f;have:=Dr (P:=P) (w:=w) (a:=⟨B,off,Dc⟩) ht k e (λj u m=>by rw[rD];exact p.LU hi (q j u m));simp_all[Kr,Alq,nI]
theorem s5.cells(e:SH w H O){k:Nat}(h0:vs≠ [])(h:∀j u,vs[j]?=Ac u->DX H (AX v (k+j)) u):
  ∃a:Addr,AX v k= .pointer (Ac a)/\∀j u,vs[j]?=Ac u->w.cell? (a.add j)=Ac u:=by
 cases v with
 |slice b n c=>
  cases b with
  |none=>
   cases vs with
   |nil=>grind
   |cons y i=>
    obtain⟨a,d,_⟩:=(h 0 y rfl).cell e;trivial
  |some b=>
   refine⟨b.add k,rfl,λj u g=>?_⟩;obtain⟨a,d,f⟩:=(h j u g).cell e;grind[AX,Ce.pointer.injEq,Option.some.injEq,De]
 |_=>
  cases vs with
  |nil=>grind
  |cons y i=>
   obtain⟨a,d,_⟩:=(h 0 y rfl).cell e;trivial
theorem Ahn{u:Ce}{k:Nat}{xs:List Ce}(ht:P.underlying t=Ac d)(j:DP d=Ak)(f:E x=Ac (AX v k))(hi:O[i]?=Ac (.row v e size n xs))(q:xs[k]?=Ac u):
  Aq P (.load t x) T E H O u:= .Ap λr w o m _ l p=>by
 obtain⟨a,g,_,_,h,_⟩:=p.fK hi q;simp_all[Kr,Alq,nI,Dq]
theorem Akq{k:Nat}{xs:List Ce}(ht:P.underlying t=Ac d)(r:DP d=Br)(c:TI P t vs.length bytes z)(h0:vs≠ [])(p:E x=Ac (AX v k))(hi:O[i]?=Ac (.row v e size n xs))(m:∀j u,vs[j]?=Ac u->xs[k+j]?=Ac u):
  Aq P (.load t x) T E H O (.agg vs.toArray):= .Ap λD w o B _ s C=>by
 have h:=C.ok i _ hi;rcases h.2 with⟨rfl,rfl⟩|⟨g,cap,cur,rfl,_,F,_,_,_,f⟩;· have l:xs=[]:=Abc (by simpa using h.1);cases vs with
  |nil=>grind
  |cons y G=>have:=m 0 y rfl;grind
 ·have q:∀j u,vs[j]?=Ac u->w.cell? ((xX ⟨g,0,Dc⟩ k).add j)=Ac u:=λj u A=>by
   have:=h.cells (g:=g) rfl (k+j) u (m j u A);grind[De]
  simp only[AX]at p;simp[Kr,B,s x _ p,Alq,nI,Dr (w:=w) ht r c q]
end
end
theorem E4(w:IK)(g:Nat)(cs:Array Ce):w.grownBy (w.setRow g cs) (Ac g):=
 ⟨rfl,rfl,rfl,by simp,λk _ a=>setRow_other w g k cs (λe=>a (by rw[e]))⟩
def CF(xs:List Ce)(off:Nat)(vs:List Ce):List Ce:=xs.take off++vs++xs.drop (off+vs.length)
theorem Vv(xs:List Ce)(off:Nat)(v:Ce)(h:off<xs.length):CF xs off [v]=xs.set off v:=by grind[CF,xu]
theorem IE(xs:List Ce)(off:Nat)(vs:List Ce)(h:off+vs.length<=xs.length):(CF xs off vs).length=xs.length:=by grind[CF]
theorem Zs(xs:List Ce)(off m:Nat)(vs:List Ce)(h:off+vs.length<=m)(h2:m<=xs.length):(CF xs off vs).take m=CF (xs.take m) off vs:=by
 unfold CF;have c:(xs.take off++vs).length=off+vs.length:=by grind
 rw[Adt,c,Abl (by omega),Ale,Aeh (by omega),Agx]
theorem K0{P:GO}{w:IK}{t:Gn}{v:Ce}{g off bytes:Nat}{z:Ce}{cur:Array Ce}{e:Gn}(c:TI P t v.cells.size bytes z)(d:w.heap[g]?=Ac (.cells cur e (0,0)))(a:off+v.cells.size<=cur.size)
  (h1:∀u∈v.cells,u.oneCell'=Br):(storeVar t ⟨g,off,Dc⟩ v).run P w= .ok () (w.setRow g (CF cur.toList off v.cells.toList).toArray):=by
 have:=run_storeCells_at (P:=P) g off e v.cells.toList 0 cur w d (by omega) (λu f=>h1 u (by grind));simp[storeVar,c.sizeOf,this,CF]
section
variable {P : GO} {Q : Exit -> Act -> IK -> Prop} {n : Nat} {L : List (Nat × Ce)} {H : Hp} {O : List Aw} {ops : Array K5} {rest : List K5}
variable {T : Gn} {E : Er -> Option Ce}
section
variable{size:Nat}{t:Gn}{v z:Ce}{bytes:Nat}{e:Gn}{i:Nat}{x:Er}{cs:Array Ce}{R:Ce->Hp->List Aw->Prop}{y:Er}{B:Nat}{vs:List Ce}{m:Nat}{w:IK}{op:Op}{off:Nat}{f:FuncId}{zs:Array Ce}{ps:List (Nat×Er)}{fn:Func}{X:Ending->IK->Prop}
theorem BP.mono{d:Ce->Hp->List Aw->Prop}(h:BP P op T E H O R)(p:∀v b c,R v b c->d v b c):BP P op T E H O d:=
 λa w o next Q i j k l m=>h a w o next Q i j k l λv q b c e f g=>m v q b c e (p _ _ _ f) g
theorem BP.Ap(h:∀(a:Act) (w:IK) (o:K5),o.op=op->o.type=T->(∀x u,E x=Ac u->a.eval x=u)->SH w H O->
  ∃v w' b c,(Kr a.eval o).run P w= .ok (.value v) w'/\H.le b/\R v b c/\SH w' b c):BP P op T E H O R:=by
 intro a w o next Q i j k l m;obtain⟨v,w',b,c,d,e,f,g⟩:=h a w o i j k l;unfold K5.wp;rw[d];exact m v w' b c e f g
theorem BP.LI(h:∀(a:Act) (w:IK) (o:K5),o.op=op->o.type=T->(∀x u,E x=Ac u->a.eval x=u)->SH w H O->
  ∃w' b c,(Kr a.eval o).run P w= .ok .skip w'/\H.le b/\R undef b c/\SH w' b c):BP P op T E H O R:=by
 intro a w o next Q i j k l m;obtain⟨w',b,c,d,e,f,g⟩:=h a w o i j k l;unfold K5.wp;rw[d];exact m undef w' b c e f g
theorem BP.Ro(A:E x=Ac (ptr B off))(K:E y=Ac v)(p:v.cells.toList=vs)(m:TI P t size bytes z)(I:vs.length=size)
  (h1:∀u∈vs,u.oneCell'=Br) (hi:O[i]?=Ac (.Af B (.cells cs e (0,0)))) (r:off+vs.length<=cs.size):
  BP P (.store t x y) T E H O (λ_ C D=>C=H/\D=O.set i (.Af B (.cells (CF cs.toList off vs).toArray e (0,0)))):= .LI λa w o G _ q s=>by
 have l:=s.ok i _ hi;have d:v.cells.size=vs.length:=by grind
 have f:=K0 (P:=P) (w:=w) (t:=t) (v:=v) (g:=B) (off:=off) (e:=e) (by rw[d,I];omega) l (by omega) (λu J=>h1 u (by grind));simp only[ptr]at A;refine⟨_,H,_,?_,Hp.le.refl H,⟨rfl,rfl⟩,s.set hi (E4 w B _) (setRow_heap w B cs _ e _ l) (λb F=> .inl F)⟩;simp_all[Kr,Instr.storeAt,nI]
theorem Fe.Ro{pos:String}{g:Array Edge}{cs':Array Ce}(l:ev L x=Ac (ptr B off))(m:ev L y=Ac v)(j:v.cells.toList=vs)(f:TI P t size bytes z)(h:vs.length=size)
  (h1:∀u∈vs,u.oneCell'=Br) (hi:O[i]?=Ac (.Af B (.cells cs e (0,0)))) (a:off+vs.length<=cs.size) (d:(CF cs.toList off vs).toArray=cs')
  (k:Fe P ops Q rest n L H (O.set i (.Af B (.cells cs' e (0,0))))):
  Fe P ops Q ({dst:=Dc,op:= .store t x y,type:=T,pos,after:=g,guard:=Dc} ::rest) n L H O:=
 Fe.opS0 (BP.Ro l m j f h h1 hi a) (by grind)
theorem Fe.oJ{pos:String}{f:Array Edge}(j:ev L x=Ac (ptr B off))(l:ev L y=Ac v)(h:v.oneCell'=Br)(c:TI P t 1 bytes z)
  (hi:O[i]?=Ac (.Af B (.cells cs e (0,0)))) (a:off<cs.size)
  (k:Fe P ops Q rest n L H (O.set i (.Af B (.cells (cs.setIfInBounds off v) e (0,0))))):
  Fe P ops Q ({dst:=Dc,op:= .store t x y,type:=T,pos,after:=f,guard:=Dc} ::rest) n L H O:=by
 have g:v.cells.toList=[v]:=by cases v<;>simp_all [Ce.cells,Ce.oneCell']
 refine Fe.Ro j l g c rf (λu d=>by grind) hi (by grind) ?_ k;grind[Vv,Array.toList_setIfInBounds]
theorem Ahg{u:Ce}{k sz:Nat}{xs:List Ce}(M:E x=Ac (AX v k))(X:E y=Ac u)(D:u.cells.toList=vs)(C:TI P t sz bytes z)(J:vs.length=sz)(h0:0<sz)
  (h1:∀u∈vs,u.oneCell'=Br) (hi:O[i]?=Ac (.row v e size m xs)) (c:k+vs.length<=xs.length):
  BP P (.store t x y) T E H O (λ_ R S=>R=H/\S=O.set i (.row v e size m (CF xs k vs))):= .LI λa w o V _ F K=>by
 have d:=K.ok i _ hi;rcases d.2 with⟨rfl,rfl⟩|⟨g,cap,cur,rfl,A,G,I,U,p,l⟩;· have:xs=[]:=Abc (by simpa using d.1);grind
 ·have j:u.cells.size=vs.length:=by grind
  have B:m*size<=cur.size:=by grind[Nat.mul_le_mul_right]
  have h:k+vs.length<=m*size:=by grind
  have q:=K0 (P:=P) (w:=w) (t:=t) (v:=u) (g:=g) (off:=k) (e:=e) (by rw[j,J];omega) G (by omega) (λu W=>h1 u (by rw[<-D];simpa using W));rw[D]at q;simp only[AX,rD,Abm]at M;refine⟨_,H,_,?_,Hp.le.refl H,⟨rfl,rfl⟩,K.set hi (E4 w g (CF cur.toList k vs).toArray) (r':= .row (.slice (Ac ⟨g,0,Dc⟩) m cap) e size m (CF xs k vs)) ?_ (λb A=> .inl A)⟩;· simp[Kr,V,F x _ M,F y _ X,Instr.storeAt,nI,q]
  ·refine⟨by rw[IE _ _ _ c];exact d.1, .inr ⟨g,cap,_,rf,A,setRow_heap w g cur _ e _ G,I,U,?_,?_⟩⟩;· simp only[List.size_toArray];rw[IE _ _ _ (by simp;omega)];simpa using p
   ·rw[Zs _ _ _ _ h (by simpa using B),l]
theorem SH.II(c:SH w H O)(e:Gn)(size:Nat):SH w H (.row (.slice Dc 0 0) e size 0 []::O):=
 c.push (IK.grownBy.refl w Dc) (IK.ownsRow_nil w 0 e size) (λb a=>by trivial)
def YY(E:Er->Option Ce):List (Nat×Er)->Option (List (Nat×Ce))
 | []=>Ac []
 |(i,x)::r=>match E x,YY E r with
  |some v,Ac vs=>Ac ((i,v)::vs)
  |_,_=>Dc
theorem HD{E:Er->Option Ce}{a:Act}(d:∀x u,E x=Ac u->a.eval x=u):∀ {ps:List (Nat×Er)} {vs:List (Nat×Ce)},YY E ps=Ac vs->ps.map (λp=>(p.1,a.eval p.2))=vs
 | [],vs,h=>by grind[YY]
 |(i,x)::r,vs,h=>by
  simp only[YY]at h;cases b:E x with
  |none=>grind
  |some v=>
   cases c:YY E r with
   |none=>grind
   |some e=>
    simp[b,c]at h;subst h;simp[d x v b];have:=HD d c;omega
theorem Aq.build{fs:Array Field}{vs:List (Nat×Ce)}{places:Array (Nat×Nat)}(ht:P.underlying t=Ac (.struct fs))(p:TI P t size bytes z)(g:z.cells=zs)
  (m:∀w,(fs.mapM λf=>do pure (f.offset,<-r_ f.type):Sem (Array (Nat×Nat))).run P w= .ok places w) (e:YY E ps=Ac vs) (k:nF (places[·]?) zs vs=Ac cs):Aq P (.build t ps.toArray) T E H O (.agg cs):= .Ap λa w o l _ j _=>by
 have h:(ps.toArray.map λ(i,x)=>(i,a.eval x)).toList=vs:=by simpa using HD j e
 simp only[Kr,l,Instr.build,oO,p.zeroValue,nt,AY ht,g];simp_all
theorem Aq.se{len b c:Nat}{l:Ce}{vs:List (Nat×Ce)}(ht:P.underlying t=Ac (.array len e))(s:TI P t size bytes z)(k:TI P e b c l)(j:z.cells=zs)
  (h:YY E ps=Ac vs) (q:nF (λi=>Ac (i*b,b)) zs vs=Ac cs):Aq P (.build t ps.toArray) T E H O (.agg cs):= .Ap λa w o r _ p _=>by
 have m:(ps.toArray.map λ(i,x)=>(i,a.eval x)).toList=vs:=by simpa using HD p h
 simp only[Kr,r,Instr.build,oO,s.zeroValue,nt,AY ht,j,k.sizeOf,m,q];rfl
theorem XU(l:List Ce):∀(k:Nat) (acc:Array Ce) (i:Nat),((l.zipIdx k).foldl (λcs (p:Ce×Nat)=>cs.setIfInBounds p.2 p.1) acc)[i]?=if k<=i/\i<k+l.length/\i<acc.size then l[i-k]? else acc[i]?:=by
 induction l with
 |nil=>simp;omega
 |cons v l h=>
  intro k acc i;rw[List.zipIdx_cons,Afl,h (k+1) (acc.setIfInBounds k v) i];grind
def Src(w:IK)(x:Ce)(size m:Nat)(a:List Ce):Prop:=a.length=m*size/\((x= .slice Dc 0 0/\m=0)\/∃b c,x= .slice (Ac b) m c/\∀j u,a[j]?=Ac u->w.cell? (b.add j)=Ac u)
theorem SH.oL(a:SH w H O){xs:List Ce}(hi:O[i]?=Ac (.row v e size m xs)):Src w v size m xs:=by
 have h:=a.ok i _ hi;refine⟨h.1,?_⟩;rcases h.2 with⟨rfl,rfl⟩|⟨g,cap,cur,rfl,_⟩;· simp
 ·exact .inr ⟨_,_,rf,h.cells (g:=g) rf⟩
theorem SH.TY(f:SH w H O){xs:List Ce}(b:Sl H v size m xs):Src w v size m xs:=by
 refine⟨b.len,?_⟩;rcases b.sl with⟨rfl,rfl⟩|⟨a,cap,rfl,_⟩;· simp
 ·refine .inr ⟨_,_,rfl,λj u e=>?_⟩;obtain⟨g,c,d⟩:=(b.cells j u e).cell f;grind[AX]
theorem BP.append{s:Er}{y:Ce}{xs d:List Ce}(ht:P.underlying t=Ac (.slice e))(hz:TI P e size bytes z)(K:z.cells.size=size)(h0:0<size)(hs:E s=Ac v)(hx:E x=Ac y)
  (hi:O[i]?=Ac (.row v e size m xs)) (A:∀w,SH w H O->Src w y size B d) (h1:∀u∈d,u.oneCell'=Br) (p:(m+B)*bytes<=140737488355328) (hl:m+B<=140737488355328):
  BP P (.call {callee:= .builtin .append,args:= #[s,x],argTypes:= #[t,t]}) T E H O (λv' H' O'=>H'=H/\O'=O.set i (.row v' e size (m+B) (xs++d))):=by
 intro a w o next Q ho hT N Y k;have f:=Y.ok i _ hi;simp only[Aw.ok]at f;obtain⟨ii,q,g1,U,V⟩:=hz.ex;have key:∀v' C,C.ownsRow 0 e size v' (m+B) (xs++d)->w.grownBy C v.ownBlock->(v'.ownBlock=v.ownBlock\/∀b,v'.ownBlock=Ac b->w.heap.size<=b)->next (a.put o.dst v') C:=λv' C k1 k2 F=>
  k v' C H _ (Hp.le.refl H) ⟨rfl,rfl⟩ (Y.set hi k2 k1 (λb p=>by grind[Aw.has]));obtain⟨j,A⟩:=A w Y;rcases A with⟨rfl,rfl⟩|⟨M,c,rfl,h⟩;· have hn:d=[]:=Abc (by omega);have J:=run_append_owned_none (P:=P) (w:=w) 0 t o.type e ii size ht q v m xs f;unfold K5.wp;simp[Kr,ho,resolve,invoke,builtin,N s _ hs,N x _ hx,J,iT];exact key v w (by grind) (IK.grownBy.refl _ _) (.inl rfl)
 ·obtain⟨v',C,R,k1,k2,F⟩:=run_append_own (P:=P) w 0 t o.type e ii z size bytes ht q V g1 U K h0 v m xs f M B c d j h h1 (by grind[maxLen]) p (Abg _);unfold K5.wp;simp[Kr,ho,resolve,invoke,builtin,N s _ hs,N x _ hx,R,iT];refine key v' C k1 k2 ?_;subst g1;rcases f.2 with⟨rfl,rfl⟩|⟨g,cap,cur,rfl,_,hg,hnc,_,W,X⟩;· right;have Z:xs=[]:=Abc (by simpa using f.1);obtain⟨v2,w2,l,q1,_,_⟩:=run_append_own (P:=P) w w.heap.size t o.type e ii z ii.size bytes ht q V rfl U K h0 (.slice Dc 0 0) 0 [] (IK.ownsRow_nil w _ e _) M B c d j h h1 (by simp only[maxLen];omega) p (Aaf _);rw[R]at l;injection l with G S;subst G;exact λb p=>(IK.ownsRow.lt q1 b p).1
  ·by_cases r:m+B<=cap
   ·left;have I:m*ii.size+d.length<=cur.size:=by rw[j,W,<-Adk];exact Abi _ r
    have l:=run_append_room (P:=P) w t o.type e ii ht q g m cap cur hg M B c d j h h1 r I;rw[R]at l;injection l with G S;rw[G];rfl
   ·right;have l:=run_append_grow (P:=P) w t o.type e ii z ht q V ⟨g,0,Dc⟩ m cap xs f.1 (f.cells (g:=g) rfl) M B c d j h (by omega) (by omega) (growslice_fits (by omega) (by rw[U];exact p));rw[R]at l;injection l with G S;intro b p;rw[G]at p;simp[Ce.ownBlock]at p;omega
structure TO(P:GO)(f:FuncId):Prop where
 ex:∃fn,P.funcs[f]?=Ac fn/\(fn.name== "runtime.NumGoroutine")=Ak/\fn.body.isNone=Ak
theorem TO.run(h:TO P f)(args:Array Ce)(w:IK):(callFunc f args).run P w= .ok (.enter f args) w:=by
 obtain⟨fn,c,d,e⟩:=h.ex;have a:¬fn.name= "runtime.NumGoroutine" :=by grind
 have b:¬fn.body=Dc:=λh=>by grind
 simp[callFunc,c,a,b]
def NP(E:Er->Option Ce):List Er->Option (List Ce)
 | []=>Ac []
 |x::xs=>match E x,NP E xs with
  |some v,Ac vs=>Ac (v::vs)
  |_,_=>Dc
theorem H_{a:Act}(e:∀x u,E x=Ac u->a.eval x=u):∀ {xs:List Er} {vs:List Ce},NP E xs=Ac vs->xs.map a.eval=vs
 | [],vs,b=>by grind[NP]
 |x::xs,vs,b=>by
  simp only[NP]at b;cases c:E x with
  |none=>grind
  |some v=>
   cases d:NP E xs with
   |none=>grind
   |some f=>
    simp[c,d]at b;subst b;simp[e x v c,H_ e d]
def Ret(H:Hp)(R:Ce->Hp->List Aw->Prop)(e:Ending)(w':IK):Prop:= ∃v a b,e= .returned v/\H.le a/\SH w' a b/\R v a b
def Tw(P:GO)(f:FuncId)(args:List Ce)(H:Hp)(O:List Aw)(R:Ce->Hp->List Aw->Prop):Prop:= ∀w,SH w H O->Calls P f args.toArray w (Ret H R)
def jt(P:GO)(f:FuncId)(args:List Ce)(H:Hp)(O:List Aw)(v:Ce):Prop:= ∀w,SH w H O->Calls P f args.toArray w λe w'=>e= .returned v/\SH w' H O
theorem Tw.mono{args:List Ce}{c:Ce->Hp->List Aw->Prop}(h:Tw P f args H O R)(j:∀v a b,H.le a->R v a b->c v a b):Tw P f args H O c:=λw k=>
 (h w k).mono λ_ _ ⟨v,a,b,e,d,g,i⟩=>⟨v,a,b,e,d,g,j _ _ _ d i⟩
def KM:Nat->List Ce->List (Nat×Ce)
 |_,[]=>[]
 |i,v::vs=>(i,v)::KM (i+1) vs
theorem Pa:∀(vs:List Ce) (i t:Nat) (v:Ce),lk (KM i vs) t=Ac v->i<=t/\vs[t-i]?=Ac v
 | [],_,_,_,h=>by trivial
 |u::c,i,t,v,h=>by
  simp only[KM,lk]at h;cases a:Hg i t with
  |true=>
   simp_all
  |false=>
   rw[a]at h;obtain⟨d,b⟩:=Pa c (i+1) t v h;grind
theorem Fr.enter(vs:List Ce)(n:Nat)(h:iJ vs.length n=Br):Fr {tmps:=vs.toArray++Alw (n-vs.toArray.size) undef,defers:=[]} n (KM 0 vs):=by
 have g:=Aay h;refine⟨rfl,by grind,λt v f=>?_⟩;obtain⟨_,c⟩:=Pa vs 0 t v f;have a:t<vs.length:=(No.1 c).1
 simp_all[Array.getElem?_append]
theorem kU{c:Code}(d:P.funcs[f]?=Ac fn)(b:fn.body=Ac c)(e:fn.ntmps=n)(a:iJ vs.length n=Br)
  (h:Wp P c (bodyPost P fn X) n (KM 0 vs) H O)  (g:SH w H O):Calls P f vs.toArray w X:=by
 subst e;exact calls_of_wp d b (h _ w (Fr.enter vs _ a) g)
def ld(a:Array Ce)(r:ResultVar):Sem Ce:=match r with
 | .tmp t=>pure (a.getD t undef)
 | .cell b t=>do loadVar t (<-asAddr (a.getD b undef))
theorem Mq(fn:Func)(a:Array Ce):results fn a=(do let vs<-fn.results.mapM (ld a);pure (if h:vs.size=1 then vs[0]else .tuple vs)):=by rfl
theorem Aix(c:fn.results= #[])(k:∀w,SH w H O->X (.returned (.tuple #[])) w):At (bodyPost P fn X) .normal n L H O:=λa w b d=>⟨b.defers,_,by simp[results,c],k w d⟩
end
end
section
variable{w:IK}{H:Hp}{O:List Aw}
theorem SH.weaken{a:Hp}(h:SH w a O)(hle:H.le a):SH w H O where
 MQ b o hb:=h.MQ b o (hle.1 b o hb)
 os:=h.os.trans hle.2.1
 output:=h.output.trans hle.2.2.1
 tape:=h.tape.trans hle.2.2.2
 ok:=h.ok
 Iv i r b hi hb:=by
  have:=h.Iv i r b hi hb;cases he:H.at_ b with
  |none=>rfl
  |some o=>rw[hle.1 b o he]at this;omega
 nd:=h.nd
theorem SH.nG(h:SH w H O)(k:Nat):SH w H (O.drop k):=
 h.pick (λi=>k+i) (λi r a=>by grind) (λi j _ _ h=>by omega)
end
section
variable {P : GO} {T : Gn} {E : Er -> Option Ce} {H : Hp} {O : List Aw}
theorem Aq.qV{x y:Er}{t e:Gn}{d:TypeDesc}{len size bytes:Nat}{z:Ce}{k:Lm}{i:Int}{cs:Array Ce}(ht:P.underlying t=Ac (.array len e))(g:P.underlying e=Ac d)(f:DP d=Br)(n:TI P e size bytes z)(l:E x=Ac (.agg cs))(m:E y=Ac (.int k i))(h:0<=i/\i<len):
  Aq P (.index t x y) T E H O (.agg (cs.extract (i.toNat*size) (i.toNat*size+size))):= .Ap λp w o j _ a _=>by
 simp[Kr,j,a x _ l,a y _ m,Instr.index,asIntOf,AY ht,h,n.sizeOf,part,Cm g,f]
end
end Go.GK
namespace Go.GK
open Go.RowKit Go.Deep
def Hp.of(W:IK):Hp:= {at_:=λb=>W.heap[b]?,os:=W.os,output:=W.output,tape:=W.tape}
theorem Ahf(W:IK):SH W (Hp.of W) []:=
 ⟨λ_ _ h=>h,rfl,rfl,rfl,λi r h=>by grind,λi r b h=>by grind,λi j r a b h=>by simp⟩
theorem SH.below{W w':IK}{O:List Aw}(h:SH w' (Hp.of W) O):Below W.heap.size W w':=by
 have a:∀k,k<W.heap.size->w'.heap[k]?=W.heap[k]?:=λk b=>by have:=h.MQ k W.heap[k] (by simp[Hp.of]);grind
 refine⟨h.os,h.tape,h.output,?_,a⟩;grind
section
variable {H : Type} {enc : Gn × Ce -> H} {P : GO} {w : IK} {base : Nat} {spare : Nat -> Bool} {held : Bool}
theorem Ajo{a:Addr}{u:Ce}(h:w.cell? a=Ac u):DX (Hp.of w) (.pointer (Ac a)) u:=by
 unfold IK.cell? at h;cases b:w.heap[a.block]? with
 |none=>grind
 |some o=>
  cases o with
  |cells c t e=>
   simp only[b]at h;cases d:a.spot with
   |none=>simp[d]at h;exact⟨a,c,t,e,rfl,d,b,h⟩
   |some x=>grind
  |_=>grind
theorem Lf{α:Type}{Q:Nat->α->Prop} :∀n:Nat,(∀i,i<n->∃a,Q i a)->∃l:List α,l.length=n/\∀i a,l[i]?=Ac a->Q i a
 |0,_=>⟨[],rfl,λi a h=>by grind⟩
 |n+1,h=>by obtain⟨l,d,f⟩:=Lf n λi j=>h i (by omega);obtain⟨a,g⟩:=h n (by omega);refine⟨l++[a],by grind,λi b c=>?_⟩;grind
end
end Go.GK
namespace Go.GK
structure jx(P:GO)(s i off ft:Nat):Prop where
 ex:∃fs f,P.underlying s=Ac (.struct fs)/\fs[i]?=Ac f/\f.offset=off/\f.type=ft/\∃inf,P.info? ft=Ac inf/\inf.size≠0
def ie(P:GO)(s i:Nat):Option (Nat×Nat×Nat):=
 match P.underlying s with
 |some (.struct fs)=>match fs[i]? with
  |some f=>match P.info? f.type with
   |some a=>Ac (f.offset,f.type,a.size)
   |none=>Dc
  |none=>Dc
 |_=>Dc
theorem jx.of{P:GO}{s i off b k:Nat}(h:ie P s i=Ac (off,b,k+1)):jx P s i off b:=by
 unfold ie at h;split at h
 ·rename_i d l;split at h
  ·rename_i f g;split at h;· rename_i a j;simp only[Ael,Aeq]at h;obtain⟨e,c,m⟩:=h;exact⟨d,f,l,g,e,c,a,by rw[<-c];exact j,by omega⟩
   grind
  grind
 grind
section
variable {P : GO} {T : Gn} {E : Er -> Option Ce} {H : Hp} {O : List Aw} {x y : Er}
section
variable{s i off:Nat}
theorem K3{w:IK}{g:Nat}{a:Addr}(j:jx P s i off g):(Instr.fieldAt s (.pointer (Ac a)) i).run P w= .ok (.pointer (Ac (a.add off))) w:=by
 obtain⟨o,f,m,c,l,n,e,k,h⟩:=j.ex;subst l n;have d:(r_ f.type).run P w= .ok e.size w:=by simp[r_,typeInfo,k]
 simp_all[Instr.fieldAt,nI,fieldPlace,AY]
theorem Agp{d B o o':Nat}(f:jx P s i off d)(h:E x=Ac (ptr B o))(c:o+off=o'):Aq P (.fieldAddr s x i) T E H O (ptr B o'):= .Ap λj w k g _ e _=>by subst c;simp only[ptr]at*;have:=K3 (w:=w) (a:=⟨B,o,Dc⟩) f;simp_all[Kr,xX]
theorem Aha{t:Gn}{s:ByteArray}{k:Lm}{i:Int}{b:UInt8}(ht:P.underlying t=Ac .string)(g:E x=Ac (.string s))(h:E y=Ac (.int k i))(h0:0<=i)(e:s[i.toNat]?=Ac b):Aq P (.index t x y) T E H O (.int .u8 (b.toNat:Nat)):= .Ap λj w l f _ d _=>by simp[Kr,f,d x _ g,d y _ h,Instr.index,asIntOf,AY ht,h0,e]
end
end
def OP(P:GO):List Field->List Lm->Nat->Bool
 |f::fs,k::b,j=>f.name != "_" &&f.offset==j&&(match P.underlying f.type with|some (.int a)=>a==k|_=>Ak)&&OP P fs b (j+1)
 | [],[],_=>Br
 |_,_,_=>Ak
def Sn(P:GO)(t:Gn)(a:List Lm):Bool:=
 match P.underlying t with
 |some (.struct fs)=>OP P fs.toList a 0&& !P.stoodInHeld t&& !P.eqGuardType P.depth t
 |_=>Ak
def C_(a:List Lm)(aS:List Int):List Ce:=List.zipWith Ce.int a aS
theorem Fj{P:GO}{d:Nat}(w:IK):∀(fs:List Field) (g:List Lm) (aS bs:List Int) (h i:List Ce),OP P fs g h.length=Br->aS.length=g.length->bs.length=g.length->h.length=i.length->
  (Op.eqFields (d+1) (h++C_ g aS).toArray (i++C_ g bs).toArray fs).run P w= .ok (Ds (aS=bs)) w
 | [],g,aS,bs,h,i,m,j,l,p=>by
  cases g with
  |nil=>simp at j l;subst j l;simp[Op.eqFields]
  |cons=>simp[OP]at m
 |f::fs,g,aS,bs,h,i,m,j,l,p=>by
  cases g with
  |nil=>simp[OP]at m
  |cons k g=>
   cases aS with
   |nil=>simp at j
   |cons a aS=>
    cases bs with
    |nil=>simp at l
    |cons b bs=>
     simp only[OP,AS,bne_iff_ne,ne_eq,beq_iff_eq]at m;obtain⟨⟨⟨u,s⟩,o⟩,v⟩:=m;have n:P.underlying f.type=Ac (.int k):=by
      split at o;· rename_i A n;rw[n];simp at o;rw[o]
      ·cases o
     have t:=Fj (P:=P) (d:=d) w fs g aS bs (h++[.int k a]) (i++[.int k b]) (by simpa using v) (by simpa using j) (by simpa using l) (by simp[p]);have q:h++C_ (k::g) (a::aS)=(h++[.int k a])++C_ g aS:=by simp[C_]
     have r:i++C_ (k::g) (b::bs)=(i++[.int k b])++C_ g bs:=by simp[C_]
     rw[<-q,<-r]at t;have x:(part f.type (h++C_ (k::g) (a::aS)).toArray f.offset).run P w= .ok (.int k a) w:=by simp[part,Cm n,DP,s,q]
     have y:(part f.type (i++C_ (k::g) (b::bs)).toArray f.offset).run P w= .ok (.int k b) w:=by simp[part,Cm n,DP,s,r,p]
     have z:(lj (d+1) f.type (.int k a) (.int k b)).run P w= .ok (a==b) w:=by simp[lj,AY n]
     simp only[Op.eqFields,u,not_false_eq_true,ne_eq,if_true,oO,x,y,z,nt];by_cases e:a=b;· subst e;simp only[beq_self_eq_true,Ahd,Aco,if_false,t,Ala,true_and]
     ·simp[e]
section
variable {P : GO} {T : Gn} {E : Er -> Option Ce} {H : Hp} {O : List Aw} {x y : Er} {Tx Ty : Gn} {ks : List Lm} {xs ys : List Int}
theorem Mm{d:Nat}(b:Sn P Tx ks=Br)(w:IK)(h1:xs.length=ks.length)(h2:ys.length=ks.length):(lj (d+1+1) Tx (.agg (C_ ks xs).toArray) (.agg (C_ ks ys).toArray)).run P w= .ok (Ds (xs=ys)) w/\P.eqGuardType P.depth Tx=Ak:=by
 unfold Sn at b;split at b
 ·rename_i e f;simp only[AS,Adz]at b;have c:P.fieldsOf Tx=e:=by grind[GO.fieldsOf]
  refine⟨?_,b.2⟩;rw[run_equalIn_agg w (d+1) Tx _ _ (by grind) b.1.2,c];have:=Fj (P:=P) (d:=d) w e.toList ks xs ys [] [] b.1.1 h1 h2 rf;grind
 grind
theorem Akl(j:Sn P Tx ks=Br)(k:E x=Ac (.agg (C_ ks xs).toArray))(l:E y=Ac (.agg (C_ ks ys).toArray))(h1:xs.length=ks.length)(h2:ys.length=ks.length):Aq P (.binOp .eql Tx x y Ty) T E H O (.bool (Ds (xs=ys))):= .Ap λa w o i _ f _=>by have h:=Mm (d:=9998) j w h1 h2;have g:=run_eqGuard_agg w .eql Tx x y (C_ ks xs).toArray (C_ ks ys).toArray h.2;simp_all[C_,Kr,run_eql_struct,oO,nt,Sem.run_pure]
theorem Akn(j:Sn P Tx ks=Br)(k:E x=Ac (.agg (C_ ks xs).toArray))(l:E y=Ac (.agg (C_ ks ys).toArray))(h1:xs.length=ks.length)(h2:ys.length=ks.length):Aq P (.binOp .neq Tx x y Ty) T E H O (.bool (!decide (xs=ys))):= .Ap λa w o i _ f _=>by have h:=Mm (d:=9998) j w h1 h2;have g:=run_eqGuard_agg w .neq Tx x y (C_ ks xs).toArray (C_ ks ys).toArray h.2;simp_all[C_,Kr,run_neq_struct,oO,nt,Sem.run_pure]
end
section
variable {P : GO} {T : Gn} {E : Er -> Option Ce} {H : Hp} {O : List Aw}
def sb(s:ByteArray)(i:Nat):Nat:=(s.data.getD i 0).toNat
end
section
variable{l:List K5}{p:Nat->Bool}
def HE(acc:List Nat):List Edge->Nat
 | []=>0
 |e::es=>(if qw .any e then 2^e.on|||acc.getD e.on 0 else 0)|||HE acc es
def Nj:List Nat->List K5->List Nat
 |acc,[]=>acc
 |acc,o::os=>Nj (acc++[HE acc o.after.toList]) os
def US(l:List K5)(i:Nat):Nat:=(Nj [] l).getD i 0
def HQ(l:List K5)(p:Nat->Bool):Prop:= ∀(j:Nat) (o:K5),l[j]?=Ac o->p j=Br->∀e∈o.after,qw .any e=Br->p e.on=Br
theorem Iu{acc:List Nat}{j:Nat} :∀ {es:List Edge},(HE acc es).testBit j=Br->∃e∈es,qw .any e=Br/\(j=e.on\/(acc.getD e.on 0).testBit j=Br)
 | [],h=>by grind[HE]
 |e::es,h=>by
  simp only[HE,Nat.testBit_or,Adw]at h;rcases h with h|h
  ·grind
  ·obtain⟨c,d,f⟩:=Iu h;grind
theorem Pc{l:List K5}{p:Nat->Bool}(A:HQ l p):∀(os:List K5) (acc:List Nat) (pre:List K5),l=pre++os->acc.length=pre.length->
  (∀i,i<acc.length->∀o,l[i]?=Ac o->(∀e∈o.after,qw .any e=Br->p e.on=Br)->∀j,(acc.getD i 0).testBit j=Br->p j=Br)->
  GS pre.length os=Br->
  ∀i,i<l.length->∀o,l[i]?=Ac o->(∀e∈o.after,qw .any e=Br->p e.on=Br)->∀j,((Nj acc os).getD i 0).testBit j=Br->p j=Br
 | [],acc,pre,q,c,h,_,i,t,o,D,k,j,a=>by subst q;simp at t;exact h i (by omega) o D k j a
 |o::os,acc,pre,q,c,h,v,i,t,E,b,k,j,a=>by
  simp only[GS,AS]at v;refine Pc A os _ (pre++[o]) (by grind) (by grind) ?_ (by grind) i t E b k j a;intro i w s b k j a;by_cases e:i<acc.length;· rw[Aad,Aaa e,<-Aad]at a;grind
  ·have B:i=acc.length:=by grind
   subst B;rw[Aad,Aac (Aaf _)]at a;simp only[Aio,Alm,Acu]at a;obtain⟨e,C,m,a⟩:=Iu a;have y:s=o:=by rw[q,c,Aac (Aaf _)]at b;simpa using b.symm
   rw[y]at k;have n:e∈o.after:=by simpa using C
   have r:=k e n m;rcases a with rfl|a;· exact r
   ·have x:e.on<acc.length:=by
     have:=(Aiq.1 v.1) e n;simp[m]at this;omega
    have g:∃u,l[e.on]?=Ac u:=by
     have:e.on<l.length:=by rw[q];simp;omega
     exact⟨l[e.on],by simp[this]⟩
    obtain⟨u,g⟩:=g;exact h e.on x u g (A e.on u g r) j a
theorem Tq(d:GS 0 l=Br)(f:HQ l p){i:Nat}{o:K5}(c:l[i]?=Ac o)(g:∀e∈o.after,qw .any e=Br->p e.on=Br):∀j,(US l i).testBit j=Br->p j=Br:=
 Pc f l [] [] rfl rfl (λi h=>by simp) d i ((No.1 c).1) o c g
def I9(p:Nat->Bool)(i:Nat):Nat->Bool:=λj=>if j=i then Br else p j
end
section
variable {P : GO} {Q : Exit -> Act -> IK -> Prop} {l : List K5}
section
variable{J:(Nat->Bool)->Act->IK->Prop}
theorem jj(B:GS 0 l=Br)
  (step:∀p a w i o,l[i]?=Ac o->p i=Ak->HQ l p->(∀j,(US l i).testBit j=Br->p j=Br)->(∀j I,l[j]?=Ac I->p j=Br->∀m,(US l j).testBit m=Br->p m=Br)->J p a w->
   if fc o (yielded l.toArray a.tmps)then o.wp P a w (J (I9 p i)) Q else J (I9 p i) (a.put o.dst undef) w)
  (K:∀p a w,(∀i,i<l.length->p i=Br)->J p a w->Q .normal a w):
  ∀(f:Nat) (b:Array Bool) (a:Act) (w:IK),b.size=l.length->HQ l (λi=>b.getD i Ak)->AB (λi=>b.getD i Ak) l.length=f->
   J (λi=>b.getD i Ak) a w->wpAny P .any l.toArray Q f b a w:=by
 have D:=Ni B;have g:∀(b:Array Bool),b.size=l.length->Aly .any l.toArray b=[]->∀i,i<l.length->b.getD i Ak=Br:=by
  intro b n R i;induction i using Nat.strongRecOn with
  |_ i ih=>
   intro N;cases H:b.getD i Ak with
   |true=>rfl
   |false=>
    have k:i∈Aly .any l.toArray b:=mem_ready.2 ⟨getD_in (by omega) H,l[i],by simp,λe U B=>by grind⟩;grind
 intro f;induction f with
 |zero=>
  intro b a w n _ h T;have A:=S3 h;have R:Aly .any l.toArray b=[]:=by
   cases W:Aly .any l.toArray b with
   |nil=>rfl
   |cons i rs=>
    have k:i∈Aly .any l.toArray b:=by rw[W];simp
    obtain⟨G,oi,z,_⟩:=mem_ready.1 k;grind
  exact⟨R,K _ a w A T⟩
 |succ f ih=>
  intro b a w n r h T;refine⟨λR=>K _ a w (g b n R) T,λi N=>?_⟩;obtain⟨G,o,z,t⟩:=mem_ready.1 N;have x:l[i]?=Ac o:=by simpa using z
  have y:i<l.length:=(No.1 x).1;have C:=getD_both G;have S:(b.setIfInBounds i Br).size=l.length:=by simp[n]
  have M:(b.setIfInBounds i Br).getD i Ak=Br:=by simp[n,y]
  have E:∀j,j≠i->(b.setIfInBounds i Br).getD j Ak=b.getD j Ak:=λj F=>getD_set_ne Ak (Ne.symm F);have L:HQ l (λZ=>(b.setIfInBounds i Br).getD Z Ak):=by
   intro j I F H e U B;have H:(b.setIfInBounds i Br).getD j Ak=Br:=H;by_cases O:j=i;· subst O;have:I=o:=Abs (F.symm.trans x);subst this;exact getD_set_true (t e U B)
   ·rw[E j O]at H;exact getD_set_true (r j I F H e U B)
  have s:AB (λj=>(b.setIfInBounds i Br).getD j Ak) l.length=f:=by have:=Ws (p:=λj=>b.getD j Ak) (q:=λj=>(b.setIfInBounds i Br).getD j Ak) y C M E;omega
  have X:I9 (λj=>b.getD j Ak) i=λj=>(b.setIfInBounds i Br).getD j Ak:=by
   funext j;unfold I9;by_cases e:j=i;· subst e;rw[if_pos rfl];exact M.symm
   ·rw[if_neg e];exact(E j e).symm
  have u:=step (λj=>b.getD j Ak) a w i o x C r (Tq B r x t) (λj I F hp=>Tq B r F (r j I F hp)) T;rw[X]at u;refine wpOp_mono (λa' w' V=>ih _ a' w' S L s V) ?_;unfold wpOp;simp only[z];split;· rename_i Y;rw[if_pos Y]at u;exact .inl u
  ·rename_i Y;rw[if_neg Y]at u;exact u
theorem L1{id:Nat}(q:P.follows .mixedOrders=Br)(n:GS 0 l=Br)
  (step:∀p a w i o,l[i]?=Ac o->p i=Ak->HQ l p->(∀j,(US l i).testBit j=Br->p j=Br)->(∀j t,l[j]?=Ac t->p j=Br->∀m,(US l j).testBit m=Br->p m=Br)->J p a w->
   if fc o (yielded l.toArray a.tmps)then o.wp P a w (J (I9 p i)) Q else J (I9 p i) (a.put o.dst undef) w)
  (e:∀p a w,(∀i,i<l.length->p i=Br)->J p a w->Q .normal a w) {a:Act} {w:IK} (h:J (λ_=>Ak) a {w with drawn:=w.drawn+1}):
  (Code.region id l.toArray Br).wp P Q a w:=by
 refine wp_region_any q ?_;have f:(λi=>(Alw l.length Ak).getD i Ak)=λ_=>Ak:=funext λi=>getD_replicate_false _ _;have:=jj n step e l.length (Alw l.length Ak) a {w with drawn:=w.drawn+1} (by simp) (λj o _ k=>by rw[f]at k;grind)
  (by
   have:∀m,AB (λ_=>Ak) m=m:=by
    intro m;induction m with
    |zero=>rfl
    |succ m s=>
     have r:AB (λ_=>Ak) (m+1)=AB (λ_=>Ak) m+1:=rfl;omega
   grind)
  (by grind);omega
end
end
section
variable{p q:Nat->Bool}
abbrev Rec:=Nat->Ce
def upd(ρ:Rec)(i:Nat)(v:Ce):Rec:=λj=>match Hg j i with
 |true=>v
 |false=>ρ j
def Cf(l:List Nat)(r:Nat):Bool:=l.any (Hg r)
theorem AR{l:List Nat}{r:Nat} :Cf l r=Br↔r∈l:=by simp[Cf]
theorem Q_(ρ:Rec)(i:Nat)(v:Ce):upd ρ i v i=v:=by simp[upd]
def word(p:Nat->Bool)(i:Nat):BitVec 64:=(BitVec.ofBoolListLE ((aO 64).map λj=>p (64*i+j))).cast (by simp)
theorem Jb(p:Nat->Bool)(i j:Nat):(word p i).getLsbD j=(Ds (j<64)&&p (64*i+j)):=by grind[word]
def O_(p:Nat->Bool):Array Ce:= #[KW (word p 0),KW (word p 1),KW (word p 2),KW (word p 3)]
def bs(p:Nat->Bool):Ce:= .agg (O_ p)
theorem WO(p:Nat->Bool)(i:Nat)(h:i<4):(O_ p)[i]?=Ac (KW (word p i)):=by
 match i,h with
 |0,_=>rfl
 |1,_=>rfl
 |2,_=>rfl
 |3,_=>rfl
theorem Yq{p q:Nat->Bool}(h:∀x,x<256->p x=q x):O_ p=O_ q:=by
 have e:∀i,i<4->word p i=word q i:=λi a=>by apply Alp;grind[Jb]
 grind[O_]
theorem eY{a b:BitVec 64}(h:KW a=KW b):a=b:=by simp only[KW,Ce.int.injEq,true_and]at h;grind[BitVec.eq_of_toNat_eq]
theorem jf(h:O_ p=O_ q):∀x,x<256->p x=q x:=by intro x e;have b:=WO p (x/64) (by omega);rw[h,WO q (x/64) (by omega)]at b;have c:=eY (Abs b);have a:=Jb p (x/64) (x %64);grind[Jb]
theorem Yn:bs p=bs q↔∀x,x<256->p x=q x:=
 ⟨λh=>jf (by grind[bs]),λh=>by grind[bs,Yq]⟩
theorem je(p:Nat->Bool):∀u∈O_ p,u.oneCell'=Br:=by intro u a;simp[O_]at a;rcases a with rfl|rfl|rfl|rfl<;>rfl
attribute [irreducible] word
end
section
variable {P : GO}
section
variable{e:Gn}{k:Lm}
theorem FX{d:Nat}{e:Gn}{k:Lm}(c:P.underlying e=Ac (.int k))(h1:P.cellsOf e=1)(w:IK)(xs ys:List Int):∀(is:List Nat),(∀i∈is,i<xs.length/\i<ys.length)->
  (Op.eqItems (d+1) e (P.cellsOf e) (xs.map (Ce.int k)).toArray (ys.map (Ce.int k)).toArray is).run P w= .ok (is.all λi=>xs[i]?==ys[i]?) w
 | [],_=>by rfl
 |i::is,h=>by
  have b:=h i (by simp);have l:=FX (d:=d) c h1 w xs ys is (λj g=>h j (by grind));have m:(part e (xs.map (Ce.int k)).toArray (i*P.cellsOf e)).run P w= .ok (.int k xs[i]) w:=by simp[part,Cm c,DP,h1,b.1]
  have n:(part e (ys.map (Ce.int k)).toArray (i*P.cellsOf e)).run P w= .ok (.int k ys[i]) w:=by simp[part,Cm c,DP,h1,b.2]
  have o:(lj (d+1) e (.int k xs[i]) (.int k ys[i])).run P w= .ok (xs[i]==ys[i]) w:=by simp[lj,AY c]
  simp only[Op.eqItems,oO,m,n,o,nt];by_cases f:xs[i]=ys[i];all_goals simp_all
theorem Oe{t:Gn}{n:Nat}{bytes:Nat}{z:Ce}(ht:P.underlying t=Ac (.array n e))(f:P.underlying e=Ac (.int k))(m:TI P e 1 bytes z)(w:IK)(xs ys:List Int)(o:xs.length=n)(p:ys.length=n):
  (rY t (.agg (xs.map (Ce.int k)).toArray) (.agg (ys.map (Ce.int k)).toArray)).run P w= .ok (Ds (xs=ys)) w:=by
 obtain⟨i,b,l,_⟩:=m.ex;have c:P.cellsOf e=1:=by grind[GO.cellsOf]
 have key:∀d,(lj (d+1+1) t (.agg (xs.map (Ce.int k)).toArray) (.agg (ys.map (Ce.int k)).toArray)).run P w= .ok (Ds (xs=ys)) w:=λd=>by
  rw[run_equalIn_array w (d+1) _ _ ht b,FX f c w xs ys _ (λi b=>by grind)];congr 1;rw[Alc];simp only[IT,Abf,beq_iff_eq,decide_eq_true_iff];constructor
  ·intro h;apply Afz;grind
  grind
 grind[rY,Alu]
end
end
section
variable {P : GO} {T : Gn} {E : Er -> Option Ce} {H : Hp} {O : List Aw} {x y : Er} {Tx Ty e : Gn} {k : Lm} {n bytes : Nat} {z : Ce}
section
variable{p q:Nat->Bool}
theorem Ajb{xs ys:List Int}(j:P.eqGuardType P.depth Tx=Ak)(ht:P.underlying Tx=Ac (.array n e))(i:P.underlying e=Ac (.int k))(q:TI P e 1 bytes z)(m:E x=Ac (.agg (xs.map (Ce.int k)).toArray))(p:E y=Ac (.agg (ys.map (Ce.int k)).toArray))(h1:xs.length=n)(h2:ys.length=n):
  Aq P (.binOp .eql Tx x y Ty) T E H O (.bool (Ds (xs=ys))):= .Ap λa w o l _ c _=>by
 have f:=Oe ht i q w xs ys h1 h2;have g:=run_eqGuard_agg w .eql Tx x y (xs.map (Ce.int k)).toArray (ys.map (Ce.int k)).toArray j;simp_all[binOp,bool,decide,pure,rY,Kr]
theorem Aiz{xs ys:List Int}(j:P.eqGuardType P.depth Tx=Ak)(ht:P.underlying Tx=Ac (.array n e))(i:P.underlying e=Ac (.int k))(q:TI P e 1 bytes z)(m:E x=Ac (.agg (xs.map (Ce.int k)).toArray))(p:E y=Ac (.agg (ys.map (Ce.int k)).toArray))(h1:xs.length=n)(h2:ys.length=n):
  Aq P (.binOp .neq Tx x y Ty) T E H O (.bool (!decide (xs=ys))):= .Ap λa w o l _ c _=>by
 have f:=Oe ht i q w xs ys h1 h2;have g:=run_eqGuard_agg w .neq Tx x y (xs.map (Ce.int k)).toArray (ys.map (Ce.int k)).toArray j;simp_all[binOp,bool,decide,pure,rY,Kr]
def Qp(p q:Nat->Bool):Bool:=(aO 256).all λx=>p x==q x
theorem iw:Qp p q=Br↔∀x,x<256->p x=q x:=by simp[Qp]
theorem rv:Qp p q=Br↔bs p=bs q:=by rw[iw,Yn]
def Li(p:Nat->Bool):List Int:=[((word p 0).toNat:Int),((word p 1).toNat:Int),((word p 2).toNat:Int),((word p 3).toNat:Int)]
theorem Tk{p q:Nat->Bool} :Ds (Li p=Li q)=Qp p q:=by rw[Alc,decide_eq_true_iff,rv];have:∀p,bs p= .agg ((Li p).map (Ce.int .u64)).toArray:=λp=>rfl;grind[Li]
theorem Aim(b:P.eqGuardType P.depth Tx=Ak)(ht:P.underlying Tx=Ac (.array 4 e))(a:P.underlying e=Ac (.int .u64))(f:TI P e 1 bytes z)(c:E x=Ac (.agg (O_ p)))(d:E y=Ac (.agg (O_ q))):
  Aq P (.binOp .eql Tx x y Ty) T E H O (.bool (Qp p q)):=by
 have:=Ajb (P:=P) (T:=T) (H:=H) (O:=O) (Ty:=Ty) (xs:=Li p) (ys:=Li q) b ht a f c d rfl rfl;grind[Tk]
theorem Aii(b:P.eqGuardType P.depth Tx=Ak)(ht:P.underlying Tx=Ac (.array 4 e))(a:P.underlying e=Ac (.int .u64))(f:TI P e 1 bytes z)(c:E x=Ac (.agg (O_ p)))(d:E y=Ac (.agg (O_ q))):
  Aq P (.binOp .neq Tx x y Ty) T E H O (.bool (!Qp p q)):=by
 have:=Aiz (P:=P) (T:=T) (H:=H) (O:=O) (Ty:=Ty) (xs:=Li p) (ys:=Li q) b ht a f c d rfl rfl;grind[Tk]
end
end
def idx{α:Type}(l:List α)(i:Int):Option α:=if 0<=i then l[i.toNat]? else Dc
def Ah{α:Type}(p:Prop) [Decidable p](k:Option α):Option α:=if p then k else Dc
def Ab{α β:Type}(x:Option α)(k:α->Option β):Option β:=match x with
 |some a=>k a
 |none=>Dc
def Ad{X R:Type} :Nat->(X->(X->Option R)->Option R)->X->Option R
 |0,_,_=>Dc
 |n+1,b,x=>b x (Ad n b)
section
variable {α β X R : Type}
section
variable{x:α}{l:List α}{i:Int}
theorem AG{p:Prop} [Decidable p]{k:Option α}{r:α}(h:Ah p k=Ac r):p/\k=Ac r:=by grind[Ah]
theorem Bj{x:Option α}{k:α->Option β}{r:β}(h:Ab x k=Ac r):∃a,x=Ac a/\k a=Ac r:=by
 cases x with
 |none=>cases h
 |some a=>exact⟨a,rfl,h⟩
theorem Uo{n:Nat}{b:X->(X->Option R)->Option R}{x:X}{r:R}(h:Ad n b x=Ac r):∃m,n=m+1/\b x (Ad m b)=Ac r:=by
 cases n with
 |zero=>cases h
 |succ m=>exact⟨m,rfl,h⟩
theorem Dm(h:idx l i=Ac x):(0<=i/\i<(l.length:Nat))/\l[i.toNat]?=Ac x:=by grind[idx]
theorem bn(h:idx l i=Ac x):0<=i/\i<(l.length:Nat):=(Dm h).1
end
end
structure Cd(α:Type)where
 sz:Nat
 BS:Hp->α->List Ce->Prop
 len:∀ {H a cs},BS H a cs->cs.length=sz
 mono:∀ {H H' a cs},H.le H'->BS H a cs->BS H' a cs
 one:∀ {H a cs},BS H a cs->∀u∈cs,u.oneCell'=Br
def A2{α:Type}(c:Cd α)(H:Hp):List α->List Ce->Prop
 | [],xs=>xs=[]
 |a::l,xs=> ∃cs ys,xs=cs++ys/\c.BS H a cs/\A2 c H l ys
structure G5{α:Type}(c:Cd α)(H:Hp)(l:List α)(v:Ce):Prop where
 ex:∃xs,Sl H v c.sz l.length xs/\A2 c H l xs
 le:l.length<=9223372036854775807
def rW:Cd Int where
 sz:=1
 BS _ n cs:=cs=[.int .i64 n]
 len h:=by grind
 mono _ h:=h
 one h:=by subst h;intro u hu;simp at hu;subst hu;rfl
def cU8:Cd Int where
 sz:=1
 BS _ n cs:=cs=[.int .u8 n]/\0<=n/\n<=255
 len h:=by grind
 mono _ h:=h
 one h:=by rw[h.1];intro u hu;simp at hu;subst hu;rfl
def cB:Cd Bool where
 sz:=1
 BS _ b cs:=cs=[.bool b]
 len h:=by grind
 mono _ h:=h
 one h:=by subst h;intro u hu;simp at hu;subst hu;rfl
abbrev Ay:=List UInt8
def sv(s:Ay):Ce:= .string ⟨⟨s⟩⟩
def cS:Cd Ay where
 sz:=1
 BS _ s cs:=cs=[sv s]
 len h:=by grind
 mono _ h:=h
 one h:=by subst h;intro u hu;simp at hu;subst hu;rfl
abbrev zt:=Nat->Bool
def cBs:Cd zt where
 sz:=4
 BS _ p cs:=cs=(O_ p).toList
 len h:=by subst h;rfl
 mono _ h:=h
 one h:=by grind[je]
def cP{α β:Type}(c:Cd α)(d:Cd β):Cd (α×β)where
 sz:=c.sz+d.sz
 BS H a cs:= ∃c1 c2,cs=c1++c2/\c.BS H a.1 c1/\d.BS H a.2 c2
 len h:=by obtain⟨c1,c2,rfl,h1,h2⟩:=h;simp[c.len h1,d.len h2]
 mono hl h:=by obtain⟨c1,c2,rfl,h1,h2⟩:=h;exact⟨c1,c2,rfl,c.mono hl h1,d.mono hl h2⟩
 one h:=by
  obtain⟨c1,c2,rfl,h1,h2⟩:=h;intro u hu;rcases AT.1 hu with hu|hu;· exact c.one h1 u hu
  ·exact d.one h2 u hu
section
variable {α : Type} {c : Cd α} {H H' : Hp}
section
variable{l:List α}{v:Ce}{x:α}
theorem A2.len:∀ {l:List α} {xs:List Ce},A2 c H l xs->xs.length=l.length*c.sz
 | [],xs,h=>by grind[A2]
 |a::l,xs,⟨f,g,e,b,d⟩=>by subst e;simp[c.len b,A2.len d,Adk,Nat.add_comm]
theorem A2.mono(a:H.le H'):∀ {l:List α} {xs:List Ce},A2 c H l xs->A2 c H' l xs
 | [],_,h=>h
 |_::_,_,⟨b,g,e,d,f⟩=>⟨b,g,e,c.mono a d,A2.mono a f⟩
theorem A2.one:∀ {l:List α} {xs:List Ce},A2 c H l xs->∀u∈xs,u.oneCell'=Br
 | [],xs,h,u,a=>by grind[A2]
 |_::_,_,⟨f,g,e,b,d⟩,u,a=>by
  subst e;rcases AT.1 a with a|a;· exact c.one b u a
  ·exact A2.one d u a
theorem A2.app:∀ {l d:List α} {xs a:List Ce},A2 c H l xs->A2 c H d a->A2 c H (l++d) (xs++a)
 | [],_,xs,_,h,b=>by grind[A2]
 |_::_,_,_,_,⟨f,j,e,g,i⟩,b=>by subst e;exact⟨f,_,by simp,g,A2.app i b⟩
theorem A2.get:∀ {l:List α} {xs:List Ce} {i:Nat} {x:α},A2 c H l xs->l[i]?=Ac x->∃cs,c.BS H x cs/\(∀j u,cs[j]?=Ac u->xs[i*c.sz+j]?=Ac u)/\cs=(xs.drop (i*c.sz)).take c.sz
 | [],_,_,_,_,h=>by grind
 |a::l,_,0,x,⟨cs,p,e,b,g⟩,h=>by
  simp at h;subst h;subst e;refine⟨cs,b,λj u d=>?_,?_⟩;· grind
  ·rw[Aen,Afb,Acf (by rw[c.len b];omega),Abl (by rw[c.len b];omega)]
 |a::l,_,i+1,x,⟨cs,p,e,b,g⟩,h=>by
  subst e;obtain⟨f,m,n,o⟩:=A2.get g (by trivial);have e:(i+1)*c.sz=cs.length+i*c.sz:=by rw[c.len b,Adk];omega
  refine⟨f,m,λj u d=>?_,?_⟩;· rw[e,Ads,Aac (by omega),Acr];exact n j u d
  simp_all
theorem A2.set:∀ {l:List α} {xs:List Ce} {i:Nat} {y:α} {vs:List Ce},A2 c H l xs->i<l.length->c.BS H y vs->A2 c H (l.set i y) (CF xs (i*c.sz) vs)
 | [],_,_,_,_,_,h,_=>by grind
 |a::l,_,0,y,vs,⟨b,j,e,d,g⟩,_,f=>by subst e;refine⟨vs,j,?_,f,g⟩;unfold CF;rw[Aen,Aeb,Aci,Abm,Acv,Aaz (by rw[c.len d,c.len f];omega),c.len d,c.len f];simp
 |a::l,_,i+1,y,vs,⟨b,j,e,d,g⟩,k,f=>by
  refine⟨b,CF j (i*c.sz) vs,?_,d,A2.set g (by grind) f⟩;have e:(i+1)*c.sz=b.length+i*c.sz:=by rw[c.len d,Adk];omega
  unfold CF;simp_all[Adt,Abl,Acr,Ads,Acv,Aaz]
theorem fx(xs:List Ce)(k off s:Nat)(cs vs:List Ce)(f:cs=(xs.drop k).take s)(b:cs.length=s)(l:off+vs.length<=s):CF xs (k+off) vs=CF xs k (CF cs off vs):=by
 subst f
 have j:(CF ((xs.drop k).take s) off vs).length=s:=by grind[IE]
 unfold CF at*
 have i:xs.drop (k+off+vs.length)=((xs.drop k).take s).drop (off+vs.length)++xs.drop (k+s):=by
  have:xs.drop (k+off+vs.length)=(xs.drop k).drop (off+vs.length):=by rw[Ade];congr 1;omega
  rw[this];have e:xs.drop k=(xs.drop k).take s++xs.drop (k+s):=by have:=(Ace s (xs.drop k)).symm;rw[Ade]at this;exact this
  conv=>lhs;rw[e]
  rw[Acv,b];have:off+vs.length-s=0:=by omega
  rw[this,Afb]
 grind
theorem A2.part{xs:List Ce}{i off:Nat}{y:α}{cs vs:List Ce}(h:A2 c H l xs)(f:l[i]?=Ac x)(b:cs=(xs.drop (i*c.sz)).take c.sz)(a:cs.length=c.sz)(e:off+vs.length<=c.sz)(g:c.BS H y (CF cs off vs)):
  A2 c H (l.set i y) (CF xs (i*c.sz+off) vs):=by
 rw[fx xs _ off c.sz cs vs b a e];exact h.set (No.1 f).1 g
theorem A2.take:∀ {l:List α} {xs:List Ce} (m:Nat),A2 c H l xs->A2 c H (l.take m) (xs.take (m*c.sz))
 | [],xs,m,h=>by grind[A2]
 |a::l,xs,0,h=>by simp[A2]
 |a::l,_,m+1,⟨b,g,e,d,f⟩=>by subst e;refine⟨b,g.take (m*c.sz),?_,d,A2.take m f⟩;rw[show(m+1)*c.sz=b.length+m*c.sz by rw[c.len d,Adk];omega,Adt,Abl (by omega),Acr]
theorem Ahr{z:α}{zs:Array Ce}(j:c.BS H z zs.toList)(h0:0<c.sz):∀m,A2 c H (T9 m z) (madeCells zs (m*c.sz)).toList:=by
 have g:zs.size=c.sz:=by rw[<-c.len j];simp
 have key:∀m,(madeCells zs (m*c.sz)).toList=(T9 m zs.toList).flatten:=by
  intro m;apply Adi;· simp_all[madeCells]
  ·intro i k e;simp only[madeCells,Array.toList_map,Array.toList_range,List.getElem_map,List.getElem_range];have o:i<m*c.sz:=by simp_all
   have:∀m i (h:i<m*c.sz) (e:i<(T9 m zs.toList).flatten.length),(T9 m zs.toList).flatten[i]=zs[i %zs.size]! :=by
    intro m;induction m with
    |zero=>omega
    |succ m f=>
     intro i h e;simp only[List.replicate_succ,List.flatten_cons];by_cases b:i<zs.size;· grind[List.getElem_append_left,Nat.mod_eq_of_lt]
     ·rw[List.getElem_append_right (by simpa using b)];have l:i-zs.toList.length<m*c.sz:=by simp[g];rw[Adk]at h;omega
      rw[f _ l];have n:(i-zs.toList.length) %zs.size=i %zs.size:=by
       have:zs.size<=i:=by omega
       simp only[Ahc];conv=>rhs;rw[<-Nat.sub_add_cancel this,Nat.add_mod_right]
      rw[n]
   grind
 intro m;rw[key];induction m with
 |zero=>exact rfl
 |succ m f=>exact⟨zs.toList,(T9 m zs.toList).flatten,by simp[List.replicate_succ],j,f⟩
theorem G5.mono(a:H.le H')(h:G5 c H l v):G5 c H' l v:=by obtain⟨⟨f,b,d⟩,e⟩:=h;exact⟨⟨f,b.mono a,d.mono a⟩,e⟩
theorem G5.sl(h:G5 c H l v):Tz v l.length:=by obtain⟨⟨e,a,b⟩,d⟩:=h;exact a.sl
theorem G5.one(h:G5 c H l v):v.oneCell'=Br:=by rcases h.sl with⟨rfl,_⟩|⟨a,cap,rfl,_⟩<;>rfl
theorem G5.nil:G5 c H [] (.slice Dc 0 0):=⟨⟨[],Sl.nil H _,rfl⟩,by simp⟩
theorem G5.get{i:Int}(h:G5 c H l v)(hi:idx l i=Ac x):∃cs,c.BS H x cs/\∀j u,cs[j]?=Ac u->DX H (AX v (i.toNat*c.sz+j)) u:=by obtain⟨⟨k,d,e⟩,g⟩:=h;obtain⟨cs,a,b,_⟩:=e.get (Dm hi).2;exact⟨cs,a,λj u f=>d.cells _ u (b j u f)⟩
theorem G5.of{n:Nat}{xs:List Ce}(h:Sl H v c.sz n xs)(b:n=l.length)(d:A2 c H l xs)(a:l.length<=9223372036854775807):G5 c H l v:=by subst b;exact⟨⟨xs,h,d⟩,a⟩
end
end
section
variable{α:Type}
def cL(c:Cd α):Cd (List α)where
 sz:=1
 BS H l cs:= ∃v,cs=[v]/\G5 c H l v
 len h:=by grind
 mono hl h:=by obtain⟨v,e,h⟩:=h;exact⟨v,e,h.mono hl⟩
 one h:=by obtain⟨v,rfl,h⟩:=h;intro u hu;simp at hu;subst hu;exact h.one
def cA(n:Nat)(c:Cd α):Cd (List α)where
 sz:=n*c.sz
 BS H l cs:=l.length=n/\A2 c H l cs
 len h:=by rw[h.2.len,h.1]
 mono hl h:=⟨h.1,h.2.mono hl⟩
 one h:=h.2.one
end
section
variable {P : GO} {T : Gn} {E : Er -> Option Ce} {H : Hp} {O : List Aw} {x : Er} {t : Gn} {d : TypeDesc}
theorem Ajf{p u:Ce}(ht:P.underlying t=Ac d)(i:DP d=Ak)(e:E x=Ac p)(h:DX H p u):Aq P (.load t x) T E H O u:= .Ap λm w o k _ j l=>by obtain⟨a,f,g⟩:=h.cell l;simp_all[Kr,Alq,nI,Dq]
theorem Ail{v:Ce}{k bytes:Nat}{z:Ce}{vs:List Ce}(ht:P.underlying t=Ac d)(m:DP d=Br)(f:TI P t vs.length bytes z)(h0:vs.isEmpty=Ak)(g:E x=Ac (AX v k))(l:∀j u,vs[j]?=Ac u->DX H (AX v (k+j)) u):
  Aq P (.load t x) T E H O (.agg vs.toArray):= .Ap λr w o p _ n q=>by
 obtain⟨a,h,i⟩:=s5.cells q (v:=v) (k:=k) (by grind) l;rw[h]at g;simp[Kr,p,n x _ g,Alq,nI,Dr (w:=w) ht m f i]
end
section
variable {P : GO} {Q : Exit -> Act -> IK -> Prop} {n : Nat} {L L' : List (Nat × Ce)} {H : Hp} {O : List Aw}
section
variable{w:IK}
def RL(a:List Nat)(k:Nat)(O:List Aw):List Aw:=a.filterMap (O[·]?)++O.drop k
def Cp:List Nat->Bool
 | []=>Br
 |k::a=> !Cf a k&&Cp a
theorem K7:∀ {d:List Nat},Cp d=Br->∀(i j a:Nat),d[i]?=Ac a->d[j]?=Ac a->i=j
 | [],_,i,_,a,h,_=>by grind
 |k::d,e,i,j,a,b,c=>by
  simp only[Cp,AS,Adz]at e;have f:∀q,d[q]?=Ac k->False:=λq g=>by have:=AR.2 (Aai g);grind
  cases i with
  |zero=>
   grind
  |succ i=>
   cases j with
   |zero=>grind
   |succ j=>rw[K7 e.2 i j a (by grind) (by trivial)]
theorem SH.RL(a:List Nat)(k:Nat)(p:(a.all λq=>aT q k)=Br)(u:Cp a=Br)(A:k<=O.length)(h:SH w H O):SH w H (RL a k O):=by
 have m:∀q∈a,q<O.length:=λq b=>by have:=IT.1 p q b;simp at this;omega
 have g:∀q∈a,q<k:=λq b=>by simp_all
 have o:∀a:List Nat,(∀q∈a,q<O.length)->a.filterMap (O[·]?)=a.map (λq=>O.getD q .emp):=by
  intro a;induction a with
  |nil=>simp
  |cons q a v=>
   grind
 have t:=o a m;refine h.pick (λi=>if i<a.length then a.getD i 0 else k+(i-a.length)) (λi r l=>?_) (λi j f z e=>?_)
 ·grind[GK.RL]
 ·by_cases c:i<a.length<;>by_cases d:j<a.length;· grind[K7]
  ·have:=g _ (AN c);grind
  ·rw[if_neg c,if_pos d]at e;have:=g _ (AN d);simp only[Aad,IN d,Acu]at e;omega
  grind
theorem SH.Og(b:SH w H O){i size m:Nat}{v:Ce}{e:Gn}{xs:List Ce}(hi:O[i]?=Ac (.row v e size m xs)):m<=9223372036854775807:=by have h:=b.ok i _ hi;rcases h.2 with⟨rfl,rfl⟩|⟨g,cap,cur,rfl,_,_,c,a,_⟩;all_goals grind[maxLen]
end
end
abbrev DY(n:Int):Prop:= -9223372036854775808<=n/\n<=9223372036854775807
abbrev F8(n:Int):Prop:=0<=n/\n<=255
abbrev Aj:Nat:=1099511627776
section
variable {P : GO} {T : Gn} {E : Er -> Option Ce} {H : Hp} {O : List Aw} {x y : Er}
section
variable{t:Gn}{b a s:Ay}{off:Nat}{i:Int}
theorem Aq.nilCheck{b:Nat}(d:E x=Ac (ptr b off)):Aq P (.nilCheck x) T E H O (ptr b off):= .Ap λa w o f _ e _=>by simp_all[ptr,Kr]
theorem Aik(ht:P.underlying t=Ac .string)(b:E x=Ac (sv s)):Aq P (.call {callee:= .builtin .len,args:= #[x],argTypes:= #[t]}) T E H O (.int .i64 ((s.length:Nat):Int)):=by have:=Akm (P:=P) (T:=T) (H:=H) (O:=O) ht b;trivial
def Ey(s:Ay)(i:Int):Option Int:=if 0<=i then(s[i.toNat]?).map (λb=>(b.toNat:Int))else Dc
theorem gW{x:Int}(h:Ey s i=Ac x):(0<=i/\i<(s.length:Nat))/\0<=x/\x<=255:=by
 unfold Ey at h;split at h;· cases a:s[i.toNat]? with
  |none=>grind
  |some b=>
   rw[a]at h;simp at h;have:=(No.1 a).1;have:=b.toNat_lt;omega
 grind
theorem Ajz{k:Lm}{z:Int}(ht:P.underlying t=Ac .string)(e:E x=Ac (sv s))(f:E y=Ac (.int k i))(h:Ey s i=Ac z):Aq P (.index t x y) T E H O (.int .u8 z):=by
 unfold Ey at h;split at h;· rename_i c;cases a:s[i.toNat]? with
  |none=>grind
  |some b=>
   rw[a]at h;simp at h;subst h;exact Aha ht e f c (by show ByteArray.mk (Array.mk s) |>.data[i.toNat]?=Ac b;grind)
 grind
theorem Ahm{Ty:Gn}(ht:P.underlying t=Ac .string)(f:E x=Ac (sv a))(g:E y=Ac (sv b)):Aq P (.binOp .eql t x y Ty) T E H O (.bool (Ds (a=b))):= .Ap λi w o e _ d _=>by
 have h:(a==b)=Ds (a=b):=by grind
 simp_all[sv,Kr,eqGuard,binOp,xq]
theorem Ake{Ty:Gn}(ht:P.underlying t=Ac .string)(f:E x=Ac (sv a))(g:E y=Ac (sv b)):Aq P (.binOp .neq t x y Ty) T E H O (.bool (!decide (a=b))):= .Ap λi w o e _ d _=>by
 have h:(a==b)=Ds (a=b):=by grind
 simp_all[sv,Kr,eqGuard,binOp,xq,bne]
theorem Ahl{Ty:Gn}(f:E x=Ac (sv a))(g:E y=Ac (sv b)):Aq P (.binOp .lss t x y Ty) T E H O (.bool (rR a b)):= .Ap λh w o e _ d _=>by simp_all[sv,Kr,eqGuard,binOp,xq]
theorem Aki{Ty:Gn}(k:E x=Ac (sv a))(l:E y=Ac (sv b))(h:a.length+b.length<=Aj):Aq P (.binOp .add t x y Ty) T E H O (sv (a++b)):= .Ap λm w o j _ d _=>by
 have g:¬(((ByteArray.mk (Array.mk a)).size+(ByteArray.mk (Array.mk b)).size:Nat):Int)>Lm.i64.max:=by have e:(ByteArray.mk (Array.mk a)).size=a.length:=rfl;have f:(ByteArray.mk (Array.mk b)).size=b.length:=rfl;simp[Lm.max,Lm.signed,Lm.bits,Aj]at*;omega
 have i:ByteArray.mk (Array.mk a)++ByteArray.mk (Array.mk b)=ByteArray.mk (Array.mk (a++b)):=by rfl
 simp_all[sv,Kr,eqGuard,binOp,xq]
theorem Ajc{d:TypeDesc}{B i bytes:Nat}{z:Ce}{cs:Array Ce}{l:Gn}{f:Nat×Nat}{vs:List Ce}(ht:P.underlying t=Ac d)(g:DP d=Br)(c:TI P t vs.length bytes z)(k:E x=Ac (ptr B off))(hi:O[i]?=Ac (.Af B (.cells cs l f)))
  (h:(cs.toList.drop off).take vs.length=vs):Aq P (.load t x) T E H O (.agg vs.toArray):=
 Akp ht g c k hi λj u e=>by grind
end
end
section
variable {P : GO} {Q : Exit -> Act -> IK -> Prop} {n : Nat} {L : List (Nat × Ce)} {H : Hp} {O : List Aw} {ops : Array K5} {rest : List K5} {T : Gn}
variable {α : Type} {c : Cd α}
theorem SH.ZK{w:IK}(b:SH w H O){i size m:Nat}{v:Ce}{e:Gn}{xs:List Ce}(hi:O[i]?=Ac (.row v e size m xs)):v.oneCell'=Br:=by rcases(b.IH hi).1 with⟨rfl,_⟩|⟨a,cap,rfl,_⟩<;>rfl
theorem Aga{op:Op}{E:Er->Option Ce}{R:Ce->Hp->List Aw->Prop}(r:Nat)(h:BP P op T E H O R)(s:∀v d b,R v d b->∃e size m xs,b[r]?=Ac (.row v e size m xs)):BP P op T E H O (λv d b=>R v d b/\v.oneCell'=Br):=
 λa w o next Q i j k l p=>h a w o next Q i j k l λv u d b t f g=>by obtain⟨e,size,m,xs,q⟩:=s v d b f;exact p v u d b t ⟨f,g.ZK q⟩ g
end
section
variable{v:Ce}
def placesOf(P:GO)(t:Gn):Option (List (Nat×Nat)):=
 match P.underlying t with
 |some (.struct fs)=>fs.toList.mapM λf=>(P.info? f.type).map λi=>(f.offset,i.size)
 |_=>Dc
theorem run_places{P:GO} :∀(l:List Field) (ps:List (Nat×Nat)),(l.mapM λf=>(P.info? f.type).map λi=>(f.offset,i.size))=Ac ps->
  ∀w,(l.mapM λf=>do pure (f.offset,<-r_ f.type):Sem (List (Nat×Nat))).run P w= .ok ps w
 | [],ps,h,w=>by simp_all
 |f::l,ps,h,w=>by
  cases a:P.info? f.type with
  |none=>grind
  |some i=>
   cases b:(l.mapM λf=>(P.info? f.type).map λi=>(f.offset,i.size))with
   |none=>grind
   |some e=>
    simp[a,b]at h;have d:=run_places l e b w;simp_all[r_,typeInfo]
def We(place:Nat->Option (Nat×Nat))(cells:Array Ce):List (Nat×Array Ce)->Option (Array Ce)
 | []=>Ac cells
 |(i,v)::a=>
  match place i with
  |none=>Dc
  |some (off,size)=>
   if v.size≠size||off+v.size>cells.size then Dc
   else We place (v.zipIdx.foldl (λcs (c,j)=>cs.setIfInBounds (off+j) c) cells) a
theorem fill_eq(place:Nat->Option (Nat×Nat)):∀(vs:List (Nat×Ce)) (cells:Array Ce),nF place cells vs=We place cells (vs.map λp=>(p.1,p.2.cells))
 | [],_=>rfl
 |(i,v)::b,cells=>by
  simp only[nF,Aat,We];cases place i with
  |none=>rfl
  |some q=>
   simp only;split;· rfl
   ·exact fill_eq place b _
theorem rQ(h:v.oneCell'=Br):v.cells= #[v]:=by cases v<;>simp_all [Ce.cells,Ce.oneCell']
theorem rP(h:v.oneCell'=Br):v.cells.toList=[v]:=by rw[rQ h]
abbrev VC(vs:List (Nat×Ce))(vcs:List (Nat×Array Ce)):Prop:=vs.map (λp=>(p.1,p.2.cells))=vcs
end
section
variable {P : GO} {T : Gn} {E : Er -> Option Ce} {H : Hp} {O : List Aw}
theorem Akh{t:Gn}{size bytes:Nat}{z:Ce}{zs cs:Array Ce}{ps:List (Nat×Er)}{vs:List (Nat×Ce)}{places:List (Nat×Nat)}(a:placesOf P t=Ac places)(m:TI P t size bytes z)(e:z.cells=zs)
  {vcs:List (Nat×Array Ce)} (d:YY E ps=Ac vs) (k:VC vs vcs) (c:We (places[·]?) zs vcs=Ac cs):Aq P (.build t ps.toArray) T E H O (.agg cs):=by
 have i:nF (places[·]?) zs vs=Ac cs:=by grind[fill_eq]
 unfold placesOf at a;split at a;· rename_i g j;refine Aq.build (places:=places.toArray) j m e (λw=>?_) d (by simp_all);have h:=run_places g.toList places a w;simp_all[List.mapM,pure,r_,Array.mapM_eq_mapM_toList,oO]
 grind
end
def CB(v:Ce)(k:Nat):Ce:=match v with
 | .agg cs=>cs.getD k undef
 | .tuple vs=>vs.getD k undef
 |_=>undef
section
variable {P : GO} {T : Gn} {E : Er -> Option Ce} {H : Hp} {O : List Aw} {ρ : Rec} {i : Nat}
theorem Ajr{t e:Gn}{len size bytes:Nat}{z:Ce}{zs cs:Array Ce}{ps:List (Nat×Er)}{vs:List (Nat×Ce)}(r:Nat)(ht:P.underlying t=Ac (.slice e))(p:TI P e size bytes z)(n:z.cells=zs)
  (c:iJ (len*size) 16777216=Br) (h0:aT 0 (len*size)=Br) (m:YY E ps=Ac vs) (B:nF (λi=>Ac (i*size,size)) ((Array.range (len*size)).map (zs[· %zs.size]!)) vs=Ac cs) (f:cs.size=len*size) (hi:O[r]?=Ac .emp):
  BP P (.buildSlice t len ps.toArray) T E H O (λv q s=>q=H/\s=O.set r (.row (upd ρ i v i) e size len cs.toList)/\upd ρ i v i=v):= .Ap λa w o C _ A D=>by
 have u:(ps.toArray.map λ(i,x)=>(i,a.eval x)).toList=vs:=by simpa using HD A m
 have g:¬len*size>2^24:=by simp_all
 have j:¬len*size=0:=by simp at h0;omega
 refine⟨.slice (Ac ⟨w.heap.size,0,Dc⟩) len len,w.alloc (.cells cs e),H,_,?_,Hp.le.refl H,⟨rf,by rw[Q_],by rw[Q_]⟩,D.set hi (IK.grownBy_alloc w _ _) ?_ (λb y=> .inr (by grind[Aw.has,Ce.ownBlock]))⟩;· simp only[Kr,C,Instr.buildSlice,oO,AY ht,nt,p.sizeOf,if_neg g,if_neg j,p.zeroValue,n,Sem.run_pure,u,B];rfl
 ·refine⟨by trivial, .inr ⟨w.heap.size,len,cs,rfl,Abg _,heap_alloc_new w _,Aaf _,?_,f,?_⟩⟩;· have G:len<=len*size:=Aet _ (Nat.pos_of_ne_zero λh=>by subst h;simp at j);simp only[maxLen];omega
  grind[rC]
end
section
variable {P : GO} {w : IK} {H : Hp} {O : List Aw} {f : FuncId} {vs : List Ce}
theorem Ru{i:Nat}{r:Aw}(hi:O[i]?=Ac r):O.set i r=O:=by apply Afz;grind
end
section
variable {H : Hp} {O : List Aw}
theorem Aiw{w:IK}{i b:Nat}{r:Aw}{o:Obj}(hi:O[i]?=Ac r)(u:r.block=Ac b)(y:H.at_ b=Dc)(C:∀w':IK,w'.heap[b]?=Ac o->r.ok w')(h:SH w (H.put b o) (O.eraseIdx i)):SH w H O:=by
 have q:(H.put b o).at_ b=Ac o:=by simp[Hp.put]
 have key:∀j s,O[j]?=Ac s->j≠i->∃k,(O.eraseIdx i)[k]?=Ac s/\k=(if j<i then j else j-1):=λj s a g=>by grind
 have l:∀j s c,O[j]?=Ac s->j≠i->s.has c->c≠b/\H.at_ c=Dc:=λj s c a g d=>by obtain⟨k,m,_⟩:=key j s a g;have f:=h.Iv k s c m d;grind[Hp.put]
 refine⟨λc t d=>h.MQ c t ?_,h.os,h.output,h.tape,λj s a=>?_,λj s c a d=>?_,λj k s x c a n d p=>?_⟩;· grind[Hp.put]
 ·by_cases g:j=i;· subst g;rw[hi]at a;cases a;exact C w (h.MQ b o q)
  ·obtain⟨k,m,_⟩:=key j s a g;exact h.ok k s m
 ·grind[Afp]
 ·by_cases g:j=i
  ·subst g;rw[hi]at a;cases a;cases Afp u d;by_cases m:k=j;· exact m.symm
   ·exact absurd rf (l k x b n m p).1
  ·by_cases m:k=i;· subst m;rw[hi]at n;cases n;cases Afp u p;exact absurd rfl (l j s b a g d).1
   ·obtain⟨D,f,z⟩:=key j s a g;obtain⟨E,B,A⟩:=key k x n m;have:=h.nd D E s x c f B d p;rw[z,A]at this;split at this<;>split at this<;>omega
end
end Go.GK
namespace Go.GK
open Go.Maps
def AF{κ β:Type} [DecidableEq κ]:List (κ×β)->κ->Option β
 | [],_=>Dc
 |(k,v)::m,x=>if k=x then Ac v else AF m x
def Is{κ β:Type} [DecidableEq κ]:List (κ×β)->κ->β->List (κ×β)
 | [],_,_=>[]
 |(k,v)::m,x,y=>if k=x then(k,y)::m else(k,v)::Is m x y
def Bz{κ β:Type} [DecidableEq κ](m:List (κ×β))(x:κ)(y:β):List (κ×β):=match AF m x with
 |some _=>Is m x y
 |none=>m++[(x,y)]
section
variable {κ β : Type} [DecidableEq κ]
theorem XV(m:List (κ×β))(x:κ)(y:β):(Is m x y).length=m.length:=by
 induction m with
 |nil=>rfl
 |cons p m b=>grind[Is]
theorem XW(m:List (κ×β))(x z:κ)(y:β):AF (Is m x y) z=if z=x then(AF m x).map (λ_=>y)else AF m z:=by
 induction m with
 |nil=>simp[AF,Is]
 |cons p m c=>
  grind[Is,AF]
theorem XX(m:List (κ×β))(x z:κ)(y:β)(h:AF m x=Dc):AF (m++[(x,y)]) z=if z=x then Ac y else AF m z:=by
 induction m with
 |nil=>
  grind[AF]
 |cons p m c=>
  grind[AF]
theorem H9(m:List (κ×β))(x z:κ)(y:β):AF (Bz m x y) z=if z=x then Ac y else AF m z:=by grind[Bz,AF,XX,XW]
theorem Kx(m:List (κ×β))(x:κ)(y:β):(Bz m x y).length=if(AF m x).isSome then m.length else m.length+1:=by grind[Bz,AF,XV]
end
section
variable{P:GO}{a:Gn}
structure NT(P:GO)(kt:Gn)(κ:Type)where
 val:κ->Ce
 lit:κ->Lit
 ok:κ->Prop
 keyed:Keyed P kt
 of:∀k,ok k->keyOf P kt (val k)=Ac (lit k)
 key:∀k,WideAt.IsKeyLit (lit k)
 inj:∀k k',lit k=lit k'->k=k'
theorem vN{n:Int}(h:DY n):(Lit.int .i64 n).wf=Br:=by simp_all[DY,Lit.wf,Lm.min,Lm.max,Lm.signed,Lm.bits]
def mkI(h:P.underlying a=Ac (.int .i64)):NT P a Int where
 val n:= .int .i64 n
 lit n:= .int .i64 n
 ok n:=DY n
 keyed:=int_keyed h
 of k hk:=keyOf_int_mk h (vN hk)
 key _:=trivial
 inj _ _ h:=by grind
def qk(h:P.underlying a=Ac .string):NT P a Ay where
 val s:=sv s
 lit s:= .string s
 ok s:=s.length<=Aj
 keyed:=string_keyed h
 of k hk:=by
  have:=Go.WideMaps.keyOf_string_mk (s:=⟨⟨k⟩⟩) h (by show k.length<=maxLen;simp only[Aj,maxLen]at*;omega);trivial
 key _:=trivial
 inj _ _ h:=by grind
end
section
variable {P : GO} {T : Gn} {E : Er -> Option Ce} {H : Hp} {O : List Aw}
theorem Aq.makeFunc{fn:Fn}{fs cs:List Er}{vf vc:List Ce}(h:NP E fs=Ac vf)(g:NP E cs=Ac vc):Aq P (.makeFunc fn fs.toArray cs.toArray) T E H O (.func fn vf.toArray vc.toArray):= .Ap λa w o i _ d _=>by have e:=H_ (a:=a) d h;have f:=H_ (a:=a) d g;simp_all[Kr,Instr.makeFunc]
theorem Aju{x:Er}{f:FuncId}{first caps:List Ce}{args:List Er}{vs:List Ce}{tys:Array Gn}{R:Ce->Hp->List Aw->Prop}(d:TO P f)(s:E x=Ac (.func (.func f) first.toArray caps.toArray))(n:NP E args=Ac vs)(ht:Tw P f (first++vs++caps) H O R):BP P (.call {callee:= .value x,args:=args.toArray,argTypes:=tys}) T E H O R:=λa w o next Q p _ g r k=>by
 have q:(Kr a.eval o).run P w= .ok (.enter f (first++vs++caps).toArray) w:=by have:=d.run (first++vs++caps).toArray w;simp[Kr,p,resolve,rz,g x _ s,invoke,H_ g n]at this⊢;omega
 unfold K5.wp;rw[q];refine(ht w r).mono ?_;rintro e t ⟨v,h,i,rfl,j,l,m⟩;grind
end
end Go.GK
namespace Go.GK
def cBy:Cd UInt8 where
 sz:=1
 BS _ b cs:=cs=[.int .u8 (b.toNat:Nat)]
 len h:=by grind
 mono _ h:=h
 one h:=by subst h;intro u hu;simp at hu;subst hu;rfl
theorem VZ{H:Hp} :∀ {l:Ay} {xs:List Ce},A2 cBy H l xs↔xs=Lib.byteCells l
 | [],xs=>Iff.rfl
 |b::l,xs=>by
  constructor;· rintro⟨c,f,rfl,d,e⟩;rw[show c=[.int .u8 (b.toNat:Nat)]from d,VZ.1 e];rfl
  ·intro h;exact⟨[.int .u8 (b.toNat:Nat)],Lib.byteCells l,h,rfl,VZ.2 rfl⟩
section
variable {P : GO} {T : Gn} {E : Er -> Option Ce} {H : Hp} {O : List Aw}
section
variable{x y:Er}{e:Gn}{j:TypeInfo}{t:Gn}{b i:Nat}{src dst:Gn}{cs:Array Ce}{v:Ce}{pt it:Gn}
theorem Ajx{Ty:Gn}(i:P.underlying t=Ac (.pointer e))(f:P.info? e=Ac j)(k:E x=Ac (.pointer Dc))(l:E y=Ac (.pointer Dc)):Aq P (.binOp .eql t x y Ty) T E H O (.bool Br):= .Ap λa w o g _ c _=>by
 have h:(binOp .eql t (.pointer Dc) (.pointer Dc)).run P w= .ok (.bool Br) w:=by
  have h:∀d:Nat,(lj (d+1) t (.pointer Dc) (.pointer Dc)).run P w= .ok Br w:=λd=>by simp[lj,AY i,sizeOf,typeInfo,f,sameAddr]
  simp_all[binOp,pure,bool,rY,Alu]
 simp_all[Kr,eqGuard]
theorem Akg{Ty:Gn}{a:Addr}(i:P.underlying t=Ac (.pointer e))(f:P.info? e=Ac j)(k:E x=Ac (.pointer (Ac a)))(l:E y=Ac (.pointer Dc)):Aq P (.binOp .eql t x y Ty) T E H O (.bool Ak):= .Ap λm w o g _ c _=>by
 have h:(binOp .eql t (.pointer (Ac a)) (.pointer Dc)).run P w= .ok (.bool Ak) w:=by
  have h:∀d:Nat,(lj (d+1) t (.pointer (Ac a)) (.pointer Dc)).run P w= .ok Ak w:=λd=>by simp[lj,AY i,sizeOf,typeInfo,f,sameAddr]
  simp_all[binOp,pure,bool,rY,Alu]
 simp_all[Kr,eqGuard]
theorem Ako{Ty:Gn}{f:Gn}{off:Nat}(l:P.underlying t=Ac (.pointer f))(i:P.info? f=Ac j)(d:E x=Ac (ptr b off))(e:E y=Ac (ptr b off)):Aq P (.binOp .neq t x y Ty) T E H O (.bool Ak):= .Ap λm w o k _ c _=>by simp_all[ptr,Kr,eqGuard,Lib.run_neq_ptr_same]
theorem Akt(n:P.underlying src=Ac (.pointer t))(g:P.underlying dst=Ac .unsafePointer)(ht:P.info? t=Ac j)(l:j.size≠0)(d:E x=Ac (ptr b 0))(hi:O[i]?=Ac (.Af b (.cells cs e (0,0))))(h0:0<cs.size):Aq P (.convert src dst x) T E H O (ptr b 0):= .Ap λq w o m _ k p=>by have c:=p.ok i _ hi;simp only[Aw.ok]at c;have h:=Lib.run_to_unsafe (P:=P) w (src:=src) (dst:=dst) (cells:=cs.size) (e:=e) ⟨b,0,Dc⟩ n g ht l (by grind[IK.shape?]) h0;simp_all[ptr,Kr]
theorem Aku{u:Gn}(n:P.underlying src=Ac .unsafePointer)(g:P.underlying dst=Ac (.pointer u))(p:P.info? u=Ac j)(d:E x=Ac (ptr b 0))(hi:O[i]?=Ac (.Af b (.cells cs e (0,0))))(l:liesAt P P.depth e (cs.size/P.cellsOf e) 0 u 1=Br):Aq P (.convert src dst x) T E H O (ptr b 0):= .Ap λr w o m _ k q=>by have c:=q.ok i _ hi;simp only[Aw.ok]at c;have h:=Lib.run_from_unsafe (P:=P) w (src:=src) (dst:=dst) (cells:=cs.size) (e:=e) ⟨b,0,Dc⟩ n g p (by grind[IK.shape?]) l;simp_all[ptr,Kr]
theorem Aks{f:FuncId}{fn:Func}{tys:Array Gn}(m:P.funcs[f]?=Ac fn)(b:(fn.name== "runtime.NumGoroutine")=Ak)(k:fn.body.isNone=Br)(n:Extern.findNext fn=Dc)(e:Extern.find fn=Ac Extern.AbiNoEscape.same)(q:E x=Ac v):
  Aq P (.call {callee:= .value (.func f),args:= #[x],argTypes:=tys}) T E H O v:= .Ap λj w o p _ l r=>by
 have h:=run_callFunc_extern m b k n e #[v] w;rw[Lib.run_noEscape]at h;have g:j.eval (.func f)= .func (.func f) #[] #[]:=rfl;simp[Kr,p,resolve,rz,g,invoke,l x _ q,h]
theorem Akv{p:Option Addr}(f:E x=Ac (.pointer p))(g:E y=Ac (.int .i64 0)):Aq P (.call {callee:= .builtin .unsafeString,args:= #[x,y],argTypes:= #[pt,it]}) T E H O (sv []):= .Ap λi w o e _ c j=>by have h:=Lib.run_unsafeString_none (P:=P) w pt it o.type p;simp[Kr,e,resolve,invoke,builtin,c x _ f,c y _ g,h];rfl
theorem BP.unsafeString{l:Ay}{xs:List Ce}(M:P.underlying pt=Ac (.pointer e))(G:P.cellsOf e=1)(A:E x=Ac (AX v 0))(N:E y=Ac (.int .i64 (l.length:Nat)))(hi:O[i]?=Ac (.row v e 1 l.length xs))(D:A2 cBy H l xs)(h0:l≠ []):
  BP P (.call {callee:= .builtin .unsafeString,args:= #[x,y],argTypes:= #[pt,it]}) T E H O (λu B C=>B=H/\C=O.set i .emp/\u=sv l):= .Ap λR w o L _ t z=>by
 have a:=z.ok i _ hi;rcases a.2 with⟨_,Q⟩|⟨g,cap,cur,rfl,_,I,K,m,n,r⟩;· grind
 ·have s:=VZ.1 D;have h:=Lib.run_unsafeString_row (P:=P) w pt it o.type e M G g cur.size (by grind[IK.shape?]) l h0 (by omega) (by grind[maxLen]) (λj x J=>a.cells (g:=g) rfl j _ (by grind[Lib.byteCells]));refine⟨sv l,w.freeze ⟨g,0,Dc⟩ l.length,H,O.set i .emp,?_,Hp.le.refl H,⟨rfl,rfl,rfl⟩,z.set hi (r':= .emp) ?_ trivial (λb F=>by cases F)⟩;· simp only[AX,xX]at A;simp[Kr,L,resolve,invoke,builtin,t x _ A,t y _ N,h];rfl
  ·have p:¬l.length=0:=λh=>h0 (OF.1 h);unfold IK.freeze;rw[if_neg p];refine⟨rfl,rfl,rfl,by simp,λk S q=>?_⟩;have:¬g=k:=λe=>q (by subst e;rfl);simp[Array.getElem?_modify,this]
end
end
end Go.GK
namespace Go.GK
open Go.Proofs
def HP(P:GO)(H:Hp):Prop:= ∀w O,SH w H O->Lib.TabIs P w "internal/strconv.uint64pow10" .u64 Lib.pow10Tab
theorem HP.mono{P:GO}{H a:Hp}(h:HP P H)(b:H.le a):HP P a:=λw O c=>h w O (c.weaken b)
theorem OM(w:IK)(k:Nat)(os:Array Obj):w.grownBy (Go.Sort.grow (w.drewN k) os) Dc:=
 ⟨rfl,rfl,rfl,by simp,λb a _=>by grind[Go.Sort.grow,IK.drewN]⟩
section
variable {P : GO} {H : Hp} {O : List Aw}
theorem jt.itoa{f:FuncId}{n:Int}(j:∀(n:Int), -9223372036854775808<=n->n<=9223372036854775807->∀(w:IK),Lib.TabIs P w "internal/strconv.uint64pow10" .u64 Lib.pow10Tab->Calls P f #[.int .i64 n] w λe w'=>e= .returned (.string ⟨(Lib.itoa n).toArray⟩)/\∃k os,w'=Go.Sort.grow (w.drewN k) os)
  (i:HP P H) (c:DY n):jt P f [.int .i64 n] H O (sv (Lib.itoa n)):=λw d=>
 (j n c.1 c.2 w (i w O d)).mono λe w' ⟨g,k,os,h⟩=>⟨g,by subst h;exact d.grown (OM w k os)⟩
end
end Go.GK
namespace Go.GK
def ofP(lo hi:Nat)(x:Nat):Bool:=Ds (lo<=x)&&Ds (x<=hi)
def aA(p:Nat->Bool)(k:Nat):List Nat:=(aO k).filter p
def nK(p:Nat->Bool)(k:Nat):Nat:=(aA p k).length
def lst(p:Nat->Bool):Nat:=((aO 256).find? p).getD 0
def anyS(p:Nat->Bool):Bool:=((aO 256).find? p).isSome
def setLast:List (Nat×Nat)->Nat->List (Nat×Nat)
 | [],_=>[]
 | [a],k=>[(a.1,k)]
 |a::b::l,k=>a::setLast (b::l) k
def fO(p:Nat->Bool):Nat->List (Nat×Nat)
 |0=>[]
 |k+1=>if p k then(if 0<k/\p (k-1)=Br then setLast (fO p k) k else fO p k++[(k,k)])else fO p k
def A8(p:Nat->Bool)(b:Int):Bool:=Ds (0<=b)&&Ds (b<256)&&p b.toNat
def wa(p:Nat->Bool):Nat->Nat->Nat
 |0,y=>y
 |f+1,y=>if A8 p ((y:Int)+1)then wa p f (y+1)else y
def re(p:Nat->Bool)(y:Nat):Nat:=wa p (256-y) y
def rrTo(p:Nat->Bool)(k:Nat):List (Nat×Nat):=((aO k).filter λx=>p x&& !A8 p ((x:Int)-1)).map λx=>(x,re p x)
attribute [irreducible] nK lst anyS aA fO rrTo A8 re
abbrev St:=Nat->Bool
def nth(l:List St)(i:Nat):St:=l.getD i (λ_=>Ak)
def UU(l:List St)(x y:Nat):Bool:=l.all λp=>p x==p y
def cls(l:List St)(x y:Nat):Bool:=Ds (x<=y)&&UU l x y
def ZJ(l:List St):Nat->List St×St
 |0=>([],λ_=>Ak)
 |k+1=>if(ZJ l k).2 k then ZJ l k else((ZJ l k).1++[cls l k],λy=>(ZJ l k).2 y||cls l k y)
def ne(p:St):Bool:= !Qp p (λ_=>Ak)
def xA(p s:St):St:=λx=>p x&&s x
def X9(p s:St):St:=λx=>p x&&(λy=> !s y) x
def two(p s:St)(j:Nat):List St:=([xA p s,X9 p s].take j).filter ne
def ZS(ps:List St)(s:St):List St:=ps.flatMap λp=>two p s 2
def oX(l:List St)(i:Nat):List St:=(l.take i).foldl ZS [ofP 0 255]
def nx(l:List St)(i m j:Nat):List St:=ZS ((oX l i).take m) (nth l i)++two (nth (oX l i) m) (nth l i) j
def cn(p:St):Nat:=nK p 256
def tot(ps:List St):Nat:=(ps.map cn).sum
def Pu(b:Nat)(s:List St×St)(p:St):List St×St:=if p b then(s.1++[p],λy=>s.2 y||p y)else s
def RN(ps:List St):Nat->List St×St
 |0=>([],λ_=>Ak)
 |b+1=>if(RN ps b).2 b then RN ps b else ps.foldl (Pu b) (RN ps b)
def wo(ps:List St)(b m:Nat):List St×St:=(ps.take m).foldl (Pu b) (RN ps b)
theorem ne_eq(p:St):(!Qp p (λ_=>Ak))=ne p:=rfl
attribute [irreducible] UU ZJ oX nx RN wo nth cls ne xA X9
def szs(l:List (Nat×Nat)):Nat:=(l.map λa=>a.2+1-a.1).sum
def pr(l:List (Nat×Nat))(i:Nat):Nat×Nat:=l.getD i (0,0)
def rgU(l:List (Nat×Nat))(i:Nat)(z:Nat):Bool:=(l.take i).any λa=>ofP a.1 a.2 z
def rgN(l:List (Nat×Nat))(i:Nat):Nat:=szs (l.take i)
def jo(l:List St)(x y i:Nat):Bool:=UU (l.take i) x y
attribute [irreducible] pr rgU rgN jo
def xY(E:Er->Option Ce)(lo hi:Option Er)(l h:Int)(n:Nat):Prop:=(lo=Dc/\l=0\/∃p k,lo=Ac p/\E p=Ac (.int k l))/\(hi=Dc/\h=(n:Int)\/∃p k,hi=Ac p/\E p=Ac (.int k h))
section
variable {P : GO} {T : Gn} {E : Er -> Option Ce} {H : Hp} {O : List Aw} {α : Type} {c : Cd α}
section
variable{e t:Gn}{size bytes:Nat}{z:Ce}{n cap:Nat}{h:Int}
theorem Iz(a:Addr):a.add 0=a:=by cases a;simp[xX]
theorem Qs(ht:P.underlying t=Ac (.slice e)):P.underlying t=Ac (.slice (P.elem t)):=by simp[GO.elem,ht]
theorem Qt(ht:P.underlying t=Ac (.slice e)):P.elem t=e:=by simp[GO.elem,ht]
theorem ZG{a:Option Addr}{lo hi:Option Er}{l:Int}{ac:Act}(ht:P.underlying t=Ac (.slice e))(s:TI P e size bytes z)(m:xY E lo hi l h n)(d:∀x v,E x=Ac v->ac.eval x=v)
  (h0:0<=l) (h1:l<=h) (h2:h<=(n:Nat)) (h3:n<=cap) (w:IK):(sO t (.slice a n cap) (lo.map ac.eval) (hi.map ac.eval) Dc).run P w= .ok (sliced a l.toNat h.toNat cap size) w:=by
 have b:=Qs ht;have f:(r_ (P.elem t)).run P w= .ok size w:=by rw[Qt ht];exact s.sizeOf
 rw[run_sliceAt_slice (h:=b)];obtain⟨r,o⟩:=m;rcases r with⟨rfl,rfl⟩|⟨p,k,rfl,i⟩<;>rcases o with⟨rfl,rfl⟩|⟨q,u,rfl,j⟩;· simp only[Akw];rw[run_slice_all (t:=t) (a:=a) (len:=n) (cap:=cap) (ht:=b),f];simp[iT]
 ·simp only[Akw,Adn,d q _ j];rw[run_slice_h (t:=t) (a:=a) (len:=n) (cap:=cap) (ht:=b) (h0:=h1) (h2:=by omega),f];simp[iT]
 ·simp only[Akw,Adn,d p _ i];rw[run_slice_l (t:=t) (a:=a) (len:=n) (cap:=cap) (ht:=b) (h0:=h0) (h1:=h1),f];simp[iT]
 ·simp only[Adn,d p _ i,d q _ j];rw[run_slice_lh (t:=t) (a:=a) (len:=n) (cap:=cap) (ht:=b) (h0:=h0) (h1:=h1) (h2:=by omega),f];simp[iT]
theorem PK{w:IK}{base:Nat}{g h:Nat}{xs:List Ce}(j:h<=n)
  (p:w.ownsRow base e size (.slice (Ac ⟨g,0,Dc⟩) n cap) n xs):w.ownsRow base e size (.slice (Ac ⟨g,0,Dc⟩) h cap) h (xs.take (h*size)):=by
 obtain⟨l,m⟩:=p;rcases m with⟨k,_⟩|⟨r,i,cur,q,o,d,s,b,f,a⟩;· cases k
 ·cases q;refine⟨by rw[Abh,l];exact Aeh (Abi _ j), .inr ⟨g,cap,cur,rfl,o,d,by omega,b,f,?_⟩⟩;rw[<-a,Ale,Aeh (Abi _ j)]
theorem Ajs{x y:Er}{v:Ce}{l:List α}{xs:List Ce}{k:Lm}{i:Nat}(ht:P.underlying t=Ac (.slice e))(F:TI P e c.sz bytes z)(D:E x=Ac v)(N:E y=Ac (.int k h))
  (hi:O[i]?=Ac (.row v e c.sz l.length xs)) (f:0<=h/\h<=(l.length:Nat)):
  BP P (.slice t x Dc (Ac y) Dc) T E H O (λv' G I=>G=H/\I=O.set i (.row v' e c.sz h.toNat (xs.take (h.toNat*c.sz)))):= .Ap λac w o C _ p u=>by
 have d:=u.ok i _ hi;simp only[Aw.ok]at d;have B:xY E Dc (Ac y) 0 h l.length:=⟨.inl ⟨rfl,rfl⟩, .inr ⟨y,k,rfl,N⟩⟩;rcases d.2 with⟨rfl,J⟩|⟨g,cap,cur,rfl,_,Q,r,K,L,s⟩
 ·have A:h=0:=by omega
  subst A;have n:=ZG (ac:=ac) (a:=Dc) (cap:=0) ht F B p (Abn 0) f.1 f.2 (by omega) w;rw[J]at n;refine⟨.slice Dc 0 0,w,H,_,?_,Hp.le.refl H,⟨rfl,rfl⟩,u.set hi (w':=w) (r':= .row (.slice Dc 0 0) e c.sz 0 (xs.take (0*c.sz))) ⟨rfl,rfl,rfl,Aaf _,λ_ _ _=>rfl⟩ ?_ ?_⟩
  ·have m:Sem.run P (sO t (.slice Dc 0 0) Dc (Ac (ac.eval y)) Dc) w= .ok (.slice Dc 0 0) w:=by simpa [sliced]using n
   simp[Kr,C,p x _ D,m,iT]
  ·simpa [Aw.ok]using IK.ownsRow_nil w _ e c.sz
  ·intro b f;cases f
 ·have n:=ZG (ac:=ac) (a:=Ac ⟨g,0,Dc⟩) (cap:=cap) ht F B p (Abn 0) f.1 f.2 r w;have M:sliced (Ac ⟨g,0,Dc⟩) (0:Int).toNat h.toNat cap c.sz= .slice (Ac ⟨g,0,Dc⟩) h.toNat cap:=by
   simp[sliced,Iz]
  rw[M]at n;refine⟨_,w,H,_,?_,Hp.le.refl H,⟨rfl,rfl⟩,u.set hi (w':=w) (r':= .row (.slice (Ac ⟨g,0,Dc⟩) h.toNat cap) e c.sz h.toNat (xs.take (h.toNat*c.sz))) ⟨rfl,rfl,rfl,Aaf _,λ_ _ _=>rfl⟩ (PK (by omega) d) ?_⟩
  ·have m:Sem.run P (sO t (.slice (Ac ⟨g,0,Dc⟩) l.length cap) Dc (Ac (ac.eval y)) Dc) w= .ok (.slice (Ac ⟨g,0,Dc⟩) h.toNat cap) w:=by simpa using n
   simp[Kr,C,p x _ D,m,iT]
  ·intro b f;exact .inl f
end
end
section
variable {α : Type}
abbrev Fam(α:Type):=List (Ce×List α×List Ce)
variable {c : Cd α} {H H' : Hp} {D : List (List α)} {F : Fam α}
theorem fy{xs:List Ce}{i:Nat}{v:Ce}(h:i<xs.length):CF xs i [v]=xs.set i v:=by unfold CF;simp only[Abo,Ado];exact(Adv (l:=xs) (i:=i) (a:=v)).symm▸(by rw[if_pos h];simp)
variable {w : IK} {A B R : List Aw} {e : Gn} {sz i : Nat} {f f' : Ce × List α × List Ce}
end
section
variable {w : IK} {H : Hp} {A B R : List Aw}
theorem Agi(h:SH w H (A++(B++R))):SH w H (B++(A++R)):=by
 refine h.pick (λj=>if j<B.length then A.length+j else if j<B.length+A.length then j-B.length else j) (λj s a=>?_) (λj k e f c=>?_)
 ·by_cases b:j<B.length;· rw[if_pos b];rw[Aaa b]at a;rw[Aac (by omega),Acr,Aaa b];exact a
  ·rw[if_neg b];rw[Aac (by omega)]at a;by_cases d:j<B.length+A.length;· rw[if_pos d];rw[Aaa (by omega)]at a⊢;exact a
   ·rw[if_neg d];rw[Aac (by omega)]at a;rw[Aac (by omega),Aac (by omega)];rw[show j-A.length-B.length=j-B.length-A.length by omega];exact a
 ·split at c<;>split at c<;>(try split at c)<;>(try split at c)<;>omega
end
section
variable {P : GO} {T : Gn} {E : Er -> Option Ce} {H : Hp} {O : List Aw} {x y : Er} {Tx Ty : Gn}
section
variable{k:Lm}{a:BitVec 64}{e:Int}
theorem Aq.NJ(b:E x=Ac (KW a))(c:E y=Ac (.int k e))(h0:0<=e):Aq P (.binOp .shl Tx x y Ty) T E H O (KW (a<<<e.toNat)):=
 Aig (n:=e.toNat) b (by rw[c,Abd h0])
theorem Aq.T2(b:E x=Ac (KW a))(c:E y=Ac (.int k e))(h0:0<=e):Aq P (.binOp .shr Tx x y Ty) T E H O (KW (a>>>e.toNat)):=
 Aif (n:=e.toNat) b (by rw[c,Abd h0])
end
end
end Go.GK
namespace Go.GK
open Go.RowKit Go.Deep
section
variable {H : Type} {enc : Gn × Ce -> H} {P : GO} {w : IK} {base : Nat} {spare : Nat -> Bool} {held : Bool} {α β : Type}
theorem WX{c:Cd α}{a:Hp} :∀ {l:List (α×List Ce)},(∀x∈l,c.BS a x.1 x.2)->A2 c a (l.map (·.1)) (l.flatMap (·.2))
 | [],_=>rfl
 |x::l,h=>⟨x.2,l.flatMap (·.2),rfl,h x (by simp),WX λy b=>h y (by simp[b])⟩
theorem Ky{sz:Nat} :∀ {l:List (α×List Ce)},(∀x∈l,x.2.length=sz)->(l.flatMap (·.2)).length=l.length*sz
 | [],_=>by simp
 |x::l,h=>by rw[Afx,Aab,h x (by simp),Ky λy b=>h y (by simp[b]),Abo,Adk];omega
theorem OR{sz:Nat} :∀ {l:List (α×List Ce)} (_:∀x∈l,x.2.length=sz) (i j:Nat) (x:α×List Ce),l[i]?=Ac x->j<sz->(l.flatMap (·.2))[i*sz+j]?=x.2[j]?
 | [],_,i,j,x,h,_=>by simp at h
 |y::l,a,0,j,x,h,c=>by simp at h;subst h;rw[Afx,Aen,Abm,Aaa (by rw[a y (by simp)];exact c)]
 |y::l,a,i+1,j,x,h,c=>by rw[Afx,Aac (by rw[a y (by simp),Adk];omega),a y (by simp)];rw[show(i+1)*sz+j-sz=i*sz+j by rw[Adk];omega];exact OR (λz d=>a z (by simp[d])) i j x (by simpa using h) c
end
section
variable {H : Type} {enc : Gn × Ce -> H} {P : GO} {w : IK} {base : Nat} {spare : Nat -> Bool} {held : Bool}
theorem HP.of{W:IK}{g:Nat}(c:P.globalNamed "internal/strconv.uint64pow10" =Ac g)(h:Lib.TabIs P W "internal/strconv.uint64pow10" .u64 Lib.pow10Tab):HP P (Hp.of W):=λw O f=>by
 have d:=f.below;have b:g<W.heap.size:=by
  unfold Lib.TabIs IK.var? at h;rw[c]at h;simp only[Option.bind_some]at h;split at h;· rename_i e;exact(Adu.1 e).1
  ·cases h
 exact Go.var?_below d c b h
end
end Go.GK
namespace Go.Proofs.YtejdlmphkeeekaaGreatDoor
open Go.GK
theorem follows:Tryz.prog.follows .mixedOrders=Br:=by kernel_rfl
theorem vX:TI Tryz.prog 288 1 8 (.pointer Dc):=TI.of (by kernel_rfl)
theorem rE:TO Tryz.prog 379:=⟨Tryz.f379,Tryz.func379,by kernel_rfl,rfl⟩
theorem LP:jx Tryz.prog 290 0 0 288:=jx.of (k:=0) (by kernel_rfl)
variable {H : Hp} {O : List Aw}
section
variable{B:Nat}{v:Ce}
theorem wY:∃j,Tryz.prog.info? 290=Ac j/\j.size≠0:=by
 have h:(Tryz.prog.info? 290).map (λj=>j.size)=Ac 2:=by kernel_rfl
 cases hj:Tryz.prog.info? 290 with
 |none=>rw[hj]at h;cases h
 |some j=>rw[hj]at h;simp at h;exact⟨j,rfl,by omega⟩
theorem cX:Tw Tryz.prog 379 [ptr B 0] H (.Af B (.cells #[.pointer Dc,v] 290 (0,0))::O) (λr H' O'=> .tuple #[]=r/\ .Af B (.cells #[ptr B 0,v] 290 (0,0))::O=O'):=by
 obtain⟨j,hj,hj0⟩:=wY
 intro w hs
 refine kU Tryz.func379 rf rf rf ?_ hs
 clear hs w
 refine Wp.seq ?_
 refine Wp.region ?_
 refine Fe.op (Aq.move rf) rf ?_
 refine Fe.op (Aq.nilCheck rf) rf ?_
 refine Fe.op (Agp (o':=0) LP rf rf) rf ?_
 refine Fe.op (Agg (i:=0) (v:= .pointer Dc) Tryz.underlying288 rf rf rf rf) rf ?_
 refine Fe.op (Ajx Tryz.underlying288 hj rf rf) rf ?_
 refine Fe.nil ?_
 refine Ahk ?_
 refine Ajk rf ?_
 refine Wp.region ?_
 refine Fe.op (Aq.move rf) rf ?_
 refine Fe.op (Aq.move rf) rf ?_
 refine Fe.op (Akt (i:=0) Tryz.underlying288 Tryz.underlying363 hj hj0 rf rf (Aay rf)) rf ?_
 refine Fe.op (Aks Tryz.func429 (by kernel_rfl) (by kernel_rfl) (by kernel_rfl) (by kernel_rfl) rf) rf ?_
 refine Fe.op (Aku (i:=0) Tryz.underlying363 Tryz.underlying288 hj rf rf (by kernel_rfl)) rf ?_
 refine Fe.op (Aq.nilCheck rf) rf ?_
 refine Fe.op (Agp (o':=0) LP rf rf) rf ?_
 refine Fe.oJ (i:=0) rf rf rf vX rf (Aay rf) ?_
 refine Fe.nil ?_
 exact Aix rf (λw hs=>⟨_,_,_,rf,Hp.le.refl _,hs,rf,rf⟩)
theorem Yo:Tw Tryz.prog 379 [ptr B 0] H (.Af B (.cells #[ptr B 0,v] 290 (0,0))::O) (λr H' O'=> .tuple #[]=r/\ .Af B (.cells #[ptr B 0,v] 290 (0,0))::O=O'):=by
 obtain⟨j,hj,hj0⟩:=wY
 intro w hs
 refine kU Tryz.func379 rf rf rf ?_ hs
 clear hs w
 refine Wp.seq ?_
 refine Wp.region ?_
 refine Fe.op (Aq.move rf) rf ?_
 refine Fe.op (Aq.nilCheck rf) rf ?_
 refine Fe.op (Agp (o':=0) LP rf rf) rf ?_
 refine Fe.op (Agg (i:=0) (v:=ptr B 0) Tryz.underlying288 rf rf rf rf) rf ?_
 refine Fe.op (Akg Tryz.underlying288 hj rf rf) rf ?_
 refine Fe.nil ?_
 refine Ahk ?_
 refine Ais rf ?_
 refine Wp.seq ?_
 refine Wp.region ?_
 refine Fe.op (Aq.move rf) rf ?_
 refine Fe.op (Aq.nilCheck rf) rf ?_
 refine Fe.op (Agp (o':=0) LP rf rf) rf ?_
 refine Fe.op (Agg (i:=0) (v:=ptr B 0) Tryz.underlying288 rf rf rf rf) rf ?_
 refine Fe.op (Aq.move rf) rf ?_
 refine Fe.op (Ako Tryz.underlying288 hj rf rf) rf ?_
 refine Fe.nil ?_
 refine Ahk ?_
 refine Ais rf ?_
 refine Wp.skip ?_
 exact Aix rf (λw hs=>⟨_,_,_,rf,Hp.le.refl _,hs,rf,rf⟩)
theorem bldC{a:Ce}(ha:a= .pointer Dc\/a=ptr B 0):Tw Tryz.prog 379 [ptr B 0] H (.Af B (.cells #[a,v] 290 (0,0))::O) (λr H' O'=> .tuple #[]=r/\ .Af B (.cells #[ptr B 0,v] 290 (0,0))::O=O'):=by
 rcases ha with rfl|rfl
 ·exact cX
 ·exact Yo
end
end Go.Proofs.YtejdlmphkeeekaaGreatDoor
namespace Go.Proofs
open Go.Shelf
def Ahy:Go.Shelf.Ren:=⟨λ|171=>323|243=>380|246=>430|283=>443|284=>444|285=>445|286=>446|129=>338|317=>449|318=>450|319=>451|320=>452|337=>454|338=>455|n=>n,λ|3=>3|9=>9|2=>2|4=>4|171=>378|0=>0|53=>308|37=>280|5=>5|173=>380|212=>385|51=>306|20=>20|213=>386|46=>270|232=>388|233=>389|n=>n,λ|17=>0|18=>1|19=>2|n=>n⟩
theorem Ahx:Go.Proofs.LaysM.n171 Tryz.prog Ahy:= {
 mixed:=by kernel_rfl
 f129:=Tryz.func338.trans (congrArg Ac (by kernel_rfl))
 f171:=Tryz.func323.trans (congrArg Ac (by kernel_rfl))
 f243:=Tryz.func380.trans (congrArg Ac (by kernel_rfl))
 f246:=Tryz.func430.trans (congrArg Ac (by kernel_rfl))
 f283:=Tryz.func443.trans (congrArg Ac (by kernel_rfl))
 f284:=Tryz.func444.trans (congrArg Ac (by kernel_rfl))
 f285:=Tryz.func445.trans (congrArg Ac (by kernel_rfl))
 f286:=Tryz.func446.trans (congrArg Ac (by kernel_rfl))
 f317:=Tryz.func449.trans (congrArg Ac (by kernel_rfl))
 f318:=Tryz.func450.trans (congrArg Ac (by kernel_rfl))
 f319:=Tryz.func451.trans (congrArg Ac (by kernel_rfl))
 f320:=Tryz.func452.trans (congrArg Ac (by kernel_rfl))
 f337:=Tryz.func454.trans (congrArg Ac (by kernel_rfl))
 f338:=Tryz.func455.trans (congrArg Ac (by kernel_rfl))
 t0:=Tryz.underlying0
 a0:=Tryz.isAgg0
 z0:=Tryz.sizeOf0
 v0:=Tryz.zeroValue0
 t2:=Tryz.underlying2
 a2:=Tryz.isAgg2
 z2:=Tryz.sizeOf2
 v2:=Tryz.zeroValue2
 t3:=Tryz.underlying3
 a3:=Tryz.isAgg3
 z3:=Tryz.sizeOf3
 v3:=Tryz.zeroValue3
 t4:=Tryz.underlying4
 a4:=Tryz.isAgg4
 z4:=Tryz.sizeOf4
 v4:=Tryz.zeroValue4
 t5:=Tryz.underlying5
 a5:=Tryz.isAgg5
 z5:=Tryz.sizeOf5
 v5:=Tryz.zeroValue5
 t9:=Tryz.underlying9
 a9:=Tryz.isAgg9
 z9:=Tryz.sizeOf9
 v9:=Tryz.zeroValue9
 t20:=Tryz.underlying20
 a20:=Tryz.isAgg20
 z20:=Tryz.sizeOf20
 v20:=Tryz.zeroValue20
 t37:=Tryz.underlying280
 a37:=Tryz.isAgg280
 z37:=Tryz.sizeOf280
 v37:=Tryz.zeroValue280
 t46:=Tryz.underlying270
 a46:=Tryz.isAgg270
 z46:=Tryz.sizeOf270
 v46:=Tryz.zeroValue270
 t51:=Tryz.underlying306
 a51:=Tryz.isAgg306
 z51:=Tryz.sizeOf306
 v51:=Tryz.zeroValue306
 t53:=Tryz.underlying308
 a53:=Tryz.isAgg308
 z53:=Tryz.sizeOf308
 v53:=Tryz.zeroValue308
 t171:=Tryz.underlying378
 a171:=Tryz.isAgg378
 z171:=Tryz.sizeOf378
 v171:=Tryz.zeroValue378
 t173:=Tryz.underlying380
 a173:=Tryz.isAgg380
 z173:=Tryz.sizeOf380
 v173:=Tryz.zeroValue380
 t212:=Tryz.underlying385
 a212:=Tryz.isAgg385
 z212:=Tryz.sizeOf385
 v212:=Tryz.zeroValue385
 t213:=Tryz.underlying386
 a213:=Tryz.isAgg386
 z213:=Tryz.sizeOf386
 t232:=Tryz.underlying388
 a232:=Tryz.isAgg388
 z232:=Tryz.sizeOf388
 v232:=Tryz.zeroValue388
 t233:=Tryz.underlying389
 a233:=Tryz.isAgg389
 z233:=Tryz.sizeOf389
 v233:=Tryz.zeroValue389
 g17:=by kernel_rfl
 g18:=by kernel_rfl
 g19:=by kernel_rfl
 i0:=by kernel_rfl
 i2:=by kernel_rfl
 i3:=by kernel_rfl
 i4:=by kernel_rfl
 i5:=by kernel_rfl
 i9:=by kernel_rfl
 i20:=by kernel_rfl
 i37:=by kernel_rfl
 i46:=by kernel_rfl
 i51:=by kernel_rfl
 i53:=by kernel_rfl
 i171:=by kernel_rfl
 i173:=by kernel_rfl
 i212:=by kernel_rfl
 i232:=by kernel_rfl
 i233:=by kernel_rfl
 m17:=by kernel_rfl
 m18:=by kernel_rfl
 m19:=by kernel_rfl}
open Go.RowKit Go.Sort Go.Lib in
theorem Tryz.strconv_Itoa(n:Int)(h0: -9223372036854775808<=n)(h1:n<=9223372036854775807)(w:IK)(htab:Lib.TabIs Tryz.prog w "internal/strconv.uint64pow10" .u64 Lib.pow10Tab):
 Calls Tryz.prog 323 #[.int .i64 n] w λe w'=>e= .returned (.string ⟨(Lib.itoa n).toArray⟩)/\∃k os,w'=grow (w.drewN k) os:=Any.strconv_Itoa Ahx n h0 h1 w htab
def Ahz:Go.Shelf.Ren:=⟨λ|176=>431|249=>447|288=>453|283=>443|284=>444|285=>445|286=>446|129=>338|317=>449|318=>450|319=>451|320=>452|337=>454|338=>455|n=>n,λ|37=>280|2=>2|3=>3|53=>308|4=>4|9=>9|171=>378|0=>0|173=>380|212=>385|51=>306|5=>5|20=>20|213=>386|46=>270|232=>388|233=>389|n=>n,λ|17=>0|18=>1|19=>2|n=>n⟩
theorem Tryz.aR:Go.Proofs.LaysM.n176 Tryz.prog Ahz:= {
 mixed:=by kernel_rfl
 f129:=Tryz.func338.trans (congrArg Ac (by kernel_rfl))
 f176:=Tryz.func431.trans (congrArg Ac (by kernel_rfl))
 f249:=Tryz.func447.trans (congrArg Ac (by kernel_rfl))
 f283:=Tryz.func443.trans (congrArg Ac (by kernel_rfl))
 f284:=Tryz.func444.trans (congrArg Ac (by kernel_rfl))
 f285:=Tryz.func445.trans (congrArg Ac (by kernel_rfl))
 f286:=Tryz.func446.trans (congrArg Ac (by kernel_rfl))
 f288:=Tryz.func453.trans (congrArg Ac (by kernel_rfl))
 f317:=Tryz.func449.trans (congrArg Ac (by kernel_rfl))
 f318:=Tryz.func450.trans (congrArg Ac (by kernel_rfl))
 f319:=Tryz.func451.trans (congrArg Ac (by kernel_rfl))
 f320:=Tryz.func452.trans (congrArg Ac (by kernel_rfl))
 f337:=Tryz.func454.trans (congrArg Ac (by kernel_rfl))
 f338:=Tryz.func455.trans (congrArg Ac (by kernel_rfl))
 t0:=Tryz.underlying0
 a0:=Tryz.isAgg0
 z0:=Tryz.sizeOf0
 v0:=Tryz.zeroValue0
 t2:=Tryz.underlying2
 a2:=Tryz.isAgg2
 z2:=Tryz.sizeOf2
 v2:=Tryz.zeroValue2
 t3:=Tryz.underlying3
 a3:=Tryz.isAgg3
 z3:=Tryz.sizeOf3
 v3:=Tryz.zeroValue3
 t4:=Tryz.underlying4
 a4:=Tryz.isAgg4
 z4:=Tryz.sizeOf4
 v4:=Tryz.zeroValue4
 t5:=Tryz.underlying5
 a5:=Tryz.isAgg5
 z5:=Tryz.sizeOf5
 v5:=Tryz.zeroValue5
 t9:=Tryz.underlying9
 a9:=Tryz.isAgg9
 z9:=Tryz.sizeOf9
 v9:=Tryz.zeroValue9
 t20:=Tryz.underlying20
 a20:=Tryz.isAgg20
 z20:=Tryz.sizeOf20
 v20:=Tryz.zeroValue20
 t37:=Tryz.underlying280
 a37:=Tryz.isAgg280
 z37:=Tryz.sizeOf280
 v37:=Tryz.zeroValue280
 t46:=Tryz.underlying270
 a46:=Tryz.isAgg270
 z46:=Tryz.sizeOf270
 v46:=Tryz.zeroValue270
 t51:=Tryz.underlying306
 a51:=Tryz.isAgg306
 z51:=Tryz.sizeOf306
 v51:=Tryz.zeroValue306
 t53:=Tryz.underlying308
 a53:=Tryz.isAgg308
 z53:=Tryz.sizeOf308
 v53:=Tryz.zeroValue308
 t171:=Tryz.underlying378
 a171:=Tryz.isAgg378
 z171:=Tryz.sizeOf378
 v171:=Tryz.zeroValue378
 t173:=Tryz.underlying380
 a173:=Tryz.isAgg380
 z173:=Tryz.sizeOf380
 v173:=Tryz.zeroValue380
 t212:=Tryz.underlying385
 a212:=Tryz.isAgg385
 z212:=Tryz.sizeOf385
 v212:=Tryz.zeroValue385
 t213:=Tryz.underlying386
 a213:=Tryz.isAgg386
 z213:=Tryz.sizeOf386
 t232:=Tryz.underlying388
 a232:=Tryz.isAgg388
 z232:=Tryz.sizeOf388
 v232:=Tryz.zeroValue388
 t233:=Tryz.underlying389
 a233:=Tryz.isAgg389
 z233:=Tryz.sizeOf389
 v233:=Tryz.zeroValue389
 g17:=by kernel_rfl
 g18:=by kernel_rfl
 g19:=by kernel_rfl
 i0:=by kernel_rfl
 i2:=by kernel_rfl
 i3:=by kernel_rfl
 i4:=by kernel_rfl
 i5:=by kernel_rfl
 i9:=by kernel_rfl
 i20:=by kernel_rfl
 i37:=by kernel_rfl
 i46:=by kernel_rfl
 i51:=by kernel_rfl
 i53:=by kernel_rfl
 i171:=by kernel_rfl
 i173:=by kernel_rfl
 i212:=by kernel_rfl
 i232:=by kernel_rfl
 i233:=by kernel_rfl
 m17:=by kernel_rfl
 m18:=by kernel_rfl
 m19:=by kernel_rfl}
end Go.Proofs
namespace Go.GV
open Go Go.GK
def iq:Int->Bool
 | .ofNat m=>iJ m 9223372036854775807
 | .negSucc m=>iJ m 9223372036854775807
theorem bN:∀(n:Int),iq n=Br↔DY n
 | .ofNat m=>by have e:Int.ofNat m=(m:Int):=rfl;simp only[iq,DY,Nat.ble_eq,e];omega
 | .negSucc m=>by simp only[iq,DY,Nat.ble_eq];omega
instance(priority:=2000) decF64(n:Int):Decidable (-9223372036854775808<=n/\n<=9223372036854775807):=decidable_of_iff (iq n=Br) (bN n)
inductive Ty where
 |int (k:Lm)|bool|str|sl (t:Ty)|st (t:Ty)|pr (a b:Ty)|un|bs|nm (i:Nat)|ar (n:Nat) (t:Ty)
def kb:Lm->Lm->Bool
 | .i8, .i8| .i16, .i16| .i32, .i32| .i64, .i64| .u8, .u8| .u16, .u16| .u32, .u32| .u64, .u64=>Br
 |_,_=>Ak
theorem OH:∀ {a b:Lm},kb a b=Br->a=b:=by intro a b;cases a<;>cases b<;>simp[kb]
def Ty.JM:Ty->Ty->Bool
 | .int j, .int k=>kb j k
 | .bool, .bool| .str, .str| .un, .un| .bs, .bs=>Br
 | .sl a, .sl b| .st a, .st b=>a.JM b
 | .pr a b, .pr c d=>a.JM c&&b.JM d
 | .nm i, .nm j=>Hg i j
 | .ar n a, .ar m b=>Hg n m&&a.JM b
 |_,_=>Ak
theorem Adj:∀ {a b:Ty},a.JM b=Br->a=b
 | .int j,b,h=>by cases b<;>simp_all [Ty.JM];exact OH h
 | .bool,b,h=>by grind[Ty.JM]
 | .str,b,h=>by grind[Ty.JM]
 | .un,b,h=>by grind[Ty.JM]
 | .bs,b,h=>by grind[Ty.JM]
 | .nm i,b,h=>by cases b<;>simp_all [Ty.JM]
 | .sl a,b,h=>by cases b<;>simp_all [Ty.JM];exact Adj h
 | .st a,b,h=>by cases b<;>simp_all [Ty.JM];exact Adj h
 | .pr a c,b,h=>by cases b<;>simp_all [Ty.JM];exact⟨Adj h.1,Adj h.2⟩
 | .ar n a,b,h=>by cases b<;>simp_all [Ty.JM];exact Adj h.2
theorem gK(k:Lm):kb k k=Br:=by cases k<;>rfl
theorem Ty.SL(t:Ty):t.JM t=Br:=by
 induction t with
 |int k=>exact gK k
 |_=>simp_all [Ty.JM]
def Ty.den(T:Nat->Type):Ty->Type
 | .int _=>Int
 | .bool=>Bool
 | .str=>Ay
 | .sl t=>List (t.den T)
 | .st t=>t.den T
 | .pr a b=>a.den T×b.den T
 | .un=>Unit
 | .bs=>zt
 | .nm i=>T i
 | .ar _ t=>List (t.den T)
def Ty.agg:Ty->Bool
 | .st _| .bs| .nm _| .ar _ _| .pr _ _| .un=>Br
 |_=>Ak
section
variable{T:Nat->Type}
def Hz:Ty->Bool
 | .int _| .bool| .str| .un| .bs=>Br
 | .st t=>Hz t
 | .pr a b=>Hz a&&Hz b
 |_=>Ak
def Td{a b:Ty}(h:a.JM b=Br)(x:a.den T):b.den T:=Eq.rec (motive:=λb _=>b.den T) x (Adj h)
def cK(k:Lm):Cd Int where
 sz:=1
 BS _ n c:=c=[.int k n]/\k.min<=n/\n<=k.max
 len h:=by grind
 mono _ h:=h
 one h:=by rw[h.1];intro u a;simp at a;subst a;rfl
def rV:Lm->Cd Int
 | .i64=>rW
 | .u8=>cU8
 |k=>cK k
def cUn:Cd Unit where
 sz:=0
 BS _ _ b:=b=[]
 len h:=by grind
 mono _ h:=h
 one h:=by grind
def Tc{T:Nat->Type}(c:(i:Nat)->Cd (T i)):(t:Ty)->Cd (t.den T)
 | .int k=>rV k
 | .bool=>cB
 | .str=>cS
 | .sl t=>cL (Tc c t)
 | .st t=>Tc c t
 | .pr a b=>cP (Tc c a) (Tc c b)
 | .un=>cUn
 | .bs=>cBs
 | .nm i=>c i
 | .ar n t=>cA n (Tc c t)
structure Df where
 T:Nat->Type
 body:Nat->Ty
 out:(i:Nat)->T i->(body i).den T
 wX:(i:Nat)->(body i).den T->T i
 size:Nat->Nat
 id:Gn->Option Nat
 cd:(i:Nat)->Cd (T i)
 size_eq:∀i,(cd i).sz=size i
 LG:∀i x,out i (wX i x)=x
 lay:∀ {i H a cs},(cd i).BS H a cs↔(Tc cd (body i)).BS H (out i a) cs
 prog:Option GO:=Dc
 inv:Hp->Prop:=λ_=>True
 C5:∀ {H H'},H.le H'->inv H->inv H':=by intros;trivial
end
section
variable (N : Df)
abbrev Df.c(t:Ty):Cd (t.den N.T):=Tc N.cd t
def Ty.sz:Ty->Nat
 | .st t=>t.sz
 | .pr a b=>a.sz+b.sz
 | .un=>0
 | .bs=>4
 | .nm i=>N.size i
 | .ar n t=>n*t.sz
 |_=>1
variable {N}
section
variable{H:Hp}{cs:List Ce}
theorem Bp:∀t:Ty,(N.c t).sz=t.sz N
 | .int k=>by cases k<;>rfl
 | .bool=>rfl
 | .str=>rfl
 | .sl _=>rfl
 | .st t=>Bp t
 | .pr a b=>by show(N.c a).sz+(N.c b).sz=a.sz N+b.sz N;rw[Bp a,Bp b]
 | .un=>rfl
 | .bs=>rfl
 | .nm i=>N.size_eq i
 | .ar n t=>by show n*(N.c t).sz=n*t.sz N;rw[Bp t]
theorem O5{a b:Ty}(h:a.JM b=Br){x:a.den N.T}(d:(N.c a).BS H x cs):(N.c b).BS H (Td h x) cs:=by have e:=Adj h;subst e;exact d
theorem Bh{t:Ty}{H:Hp}{x:t.den N.T}{cs:List Ce}(h:(N.c t).BS H x cs):cs.length=t.sz N:=by rw[<-Bp];exact(N.c t).len h
def UE(k:Lm)(n:Int):Prop:=match k with
 | .i64=>True
 | .u8=>0<=n/\n<=255
 |k=>k.min<=n/\n<=k.max
theorem D6{k:Lm}{n:Int} :(rV k).BS H n cs↔cs=[.int k n]/\UE k n:=by cases k<;>simp[rV,rW,cU8,cK,UE]
end
end
def rdH(v:Ce):Option (DataW Ce×List MemPlace):=Ac (.held v,[])
section
variable {P : GO} {kt et : Gn} {κ : Type} [DecidableEq κ]
def QT(K:NT P kt κ)(b:Nat)(m:List (κ×Ce))(w:IK):Prop:= ∃D:DataW Ce,w.ownsMap P kt rdH b m.length D/\Maps.size D=m.length/\(∀k,Maps.has D (K.lit k)=(AF m k).isSome)/\∀k x,AF m k=Ac x->∀z,D.atKey (K.lit k) z= .held x
def Kq(K:NT P kt κ)(b:Nat)(m:List (κ×Ce)):Aw:= .own b (QT K b m) (λ_ ⟨_,h,_⟩=>h.lt) (λ_ _ _ ⟨D,h,c⟩ d a=>⟨D,h.kept d (λe=>a e.symm),c⟩)
variable {K : NT P kt κ} {T : Gn} {E : Er -> Option Ce} {H : Hp} {O : List Aw} {t : Gn}
section
variable{b:Nat}{m:List (κ×Ce)}{x:Er}{i:Nat}{k:κ}{y:Er}{v:Ce}{n bytes:Nat}{z:Ce}{u:Er}
theorem Aho(ht:P.underlying t=Ac (.map kt et))(C:TI P et n bytes z)(A:E x=Ac (.map (Ac b)))(B:E y=Ac (K.val k))(q:K.ok k)(hi:O[i]?=Ac (Kq K b m)):
  Aq P (.lookup t x y Ak) T E H O ((AF m k).getD z):= .Ap λG w o r _ g s=>by
 obtain⟨D,j,I,l,p⟩:QT K b m w:=s.ok i _ hi;obtain⟨v,F,d,a⟩:=j.lookup K.keyed ht C.zeroValue (zd:= .held z) (zp:=[]) rfl (K.of k q);have e:v=(AF m k).getD z:=by
  have a:Ac ((DataW.held v:DataW Ce),([]:List MemPlace))=Ac (_,F):=a;cases h:AF m k with
  |none=>
   grind[Maps.atKey_of_not_has]
  |some u=>simp_all
 simp_all[Kr]
theorem Ahp(ht:P.underlying t=Ac (.map kt et))(F:TI P et n bytes z)(B:E x=Ac (.map (Ac b)))(C:E y=Ac (K.val k))(r:K.ok k)(hi:O[i]?=Ac (Kq K b m)):
  Aq P (.lookup t x y Br) T E H O (.tuple #[(AF m k).getD z, .bool (AF m k).isSome]):= .Ap λI w o s _ j A=>by
 obtain⟨D,p,J,h,q⟩:QT K b m w:=A.ok i _ hi;obtain⟨v,G,a,c⟩:=p.look_ok K.keyed ht F.zeroValue (zd:= .held z) (zp:=[]) rfl (K.of k r);have e:v=(AF m k).getD z:=by
  have c:Ac ((DataW.held v:DataW Ce),([]:List MemPlace))=Ac (_,G):=c;cases l:AF m k with
  |none=>
   grind[Maps.atKey_of_not_has]
  |some u=>simp_all
 simp_all[Kr]
theorem Ajd(ht:P.underlying t=Ac (.map kt et))(j:E x=Ac (.map (Ac b)))(hi:O[i]?=Ac (Kq K b m)):
  Aq P (.call {callee:= .builtin .len,args:= #[x],argTypes:= #[t]}) T E H O (.int .i64 ((m.length:Nat):Int)):= .Ap λk w o g _ f h=>by
 obtain⟨D,d,e,l,n⟩:QT K b m w:=h.ok i _ hi;have:=d.len ht o.type;rw[e]at this;simp[Kr,g,f x _ j,resolve,invoke,builtin,this]
theorem QT.store{w:IK}(h:QT K b m w)(ht:P.underlying t=Ac (.map kt et))(u:K.ok k)(B:m.length<=Aj):
  ∃w',(Instr.mapUpdate t (.map (Ac b)) (K.val k) v).run P w= .ok () w'/\QT K b (Bz m k v) w'/\w.grownBy w' (Ac b):=by
 obtain⟨D,f,r,l,s⟩:=h;obtain⟨w',o,p,q⟩:=f.update K.keyed ht (by simp only[Aj,maxLen]at*;omega) (K.of k u) (d:= .held v) (ps:=[]) rfl;have c:Maps.size (D.put (K.lit k) (.held v))=(Bz m k v).length:=by rw[Maps.size_put (f.tidy K.keyed),l k,r,Kx]
 refine⟨w',o,⟨_,?_,c,λg=>?_,λg x a z=>?_⟩,q⟩
 ·obtain⟨j,clock,y,A,C,n⟩:=p;refine⟨j,clock,y,A,?_,n⟩;simp_all[Maps.size,Go.length_read,Aaf]
 ·rw[H9];by_cases e:g=k;· subst e;rw[if_pos rfl,Maps.has_put_same f.isMap (K.key _)];rfl
  ·rw[if_neg e,Maps.has_put_other (λx=>e (K.inj _ _ x)),l]
 ·rw[H9]at a;by_cases e:g=k;· subst e;rw[if_pos rfl]at a;injection a with a;subst a;exact Maps.atKey_put_same f.isMap (K.key _) _ _
  ·rw[Maps.atKey_put_other (λx=>e (K.inj _ _ x))];grind
theorem Ahj(ht:P.underlying t=Ac (.map kt et))(A:E x=Ac (.map (Ac b)))(B:E y=Ac (K.val k))(z:E u=Ac v)(q:K.ok k)(r:m.length<=Aj)(hi:O[i]?=Ac (Kq K b m)):
  BP P (.mapUpdate t x y u) T E H O (λ_ g h=>g=H/\h=O.set i (Kq K b (Bz m k v))):= .LI λa w o s _ e f=>by
 obtain⟨C,j,l,n⟩:=QT.store (f.ok i _ hi) ht q r;refine⟨C,H,_,?_,Hp.le.refl H,⟨rfl,rfl⟩,f.set hi n l (λc p=> .inl p)⟩;simp_all[Kr]
theorem Ahh(ht:P.underlying t=Ac (.map kt et))(A:E x=Ac (.map (Ac b)))(B:E y=Ac (K.val k))(z:E u=Ac v)(q:K.ok k)(r:m.length<=Aj)(hi:O[i]?=Ac (Kq K b m)):
  BP P (.insert t x y u) T E H O (λ_ g h=>g=H/\h=O.set i (Kq K b (Bz m k v))):= .LI λa w o s _ e f=>by
 obtain⟨C,j,l,n⟩:=QT.store (f.ok i _ hi) ht q r;refine⟨C,H,_,?_,Hp.le.refl H,⟨rfl,rfl⟩,f.set hi n l (λc p=> .inl p)⟩;simp_all[Kr]
theorem Ahi(K:NT P kt κ):BP P (.makeMap t Dc) T E H O (λv d e=> ∃B,v= .map (Ac B)/\d=H/\e=Kq K B []::O):= .Ap λa w o g _ j i=>by
 refine⟨.map (Ac w.heap.size),w.alloc (.map #[] 0),H,Kq K w.heap.size []::O,?_,Hp.le.refl H,⟨_,rf,rf,rf⟩,i.push (IK.grownBy_alloc w _ Dc) ?_ (λb f=>by grind[Kq,Aw.has])⟩;· simp[Kr,g,Go.RowKit.run_makeMap]
 ·exact⟨.map [],IK.ownsMap_made w P kt _,rfl,λk=>rfl,λk x h=>by cases h⟩
end
end
section
variable{P:GO}
def gn:Int->Nat
 | .ofNat n=>2*n
 | .negSucc n=>2*n+1
theorem gl:∀ {a b:Int},gn a=gn b->a=b
 | .ofNat n, .ofNat m,h=>by grind[gn]
 | .ofNat n, .negSucc m,h=>by grind[gn]
 | .negSucc n, .ofNat m,h=>by grind[gn]
 | .negSucc n, .negSucc m,h=>by grind[gn]
def np(m n:Nat):Nat:=(m+n)*(m+n)+m
theorem nr{m n a b:Nat}(h:m+n<a+b):np m n<np a b:=by have c:(m+n+1)*(m+n+1)<=(a+b)*(a+b):=Abv h h;grind[np]
theorem pX{m n a b:Nat}(h:np m n=np a b):m=a/\n=b:=by
 rcases Acw (m+n) (a+b)with e|e|e;· have:=nr e;omega
 ·grind[np]
 ·have:=nr e;omega
open Classical in
noncomputable def VK(x:Int×Int):Lit:=if DY x.1/\DY x.2 then .string (keyBytes [.int .i64 x.1, .int .i64 x.2])else .int .u8 ((np (gn x.1) (gn x.2):Nat):Int)
def gX:Option TypeDesc->Bool
 |some (.int .i64)=>Br
 |_=>Ak
theorem V8{d:Option TypeDesc}(h:gX d=Br):d=Ac (.int .i64):=by grind[gX]
def OE(P:GO)(g:Gn):Bool:=(aT g P.types.size&&iJ (P.types.size+2) 10000)&&(P.keyType g&&match P.underlying g with
 |some (.struct ⟨[a,b]⟩)=>Hg (P.cellsOf g) 2&&((Hg a.offset 0&&(Hg (P.cellsOf a.type) 1&&gX (P.underlying a.type)))&&(Hg b.offset 1&&(Hg (P.cellsOf b.type) 1&&gX (P.underlying b.type))))
 |_=>Ak)
theorem K'{d:Nat}{t:Gn}{a:Int}(c:P.underlying t=Ac (.int .i64))(b:DY a):P.keyLits (d+1) t [.int .i64 a]=Ac [.int .i64 a]:=by unfold GO.keyLits;simp only[c];rw[if_pos ⟨trivial,vN b⟩]
theorem PJ{P:GO}{g:Gn}(h:OE P g=Br){a b:Int}(y:DY a)(z:DY b):keyOf P g (.agg #[.int .i64 a, .int .i64 b])=Ac (.string (keyBytes [.int .i64 a, .int .i64 b])):=by
 unfold OE at h;simp only[AS]at h;obtain⟨⟨q,D⟩,e,m⟩:=h;split at m
 ·rename_i j k n;simp only[AS]at m;obtain⟨c,⟨r,o,t⟩,s,p,u⟩:=m;have c:=AI c;have r:=AI r;have o:=AI o;have s:=AI s;have p:=AI p;have t:=V8 t;have u:=V8 u;have C:(⟨[j,k]⟩:Array _).all (λf=>f.name != "_")=Br:=by
   unfold GO.keyType GO.keyTypeAt at e;rw[n]at e;simp only[AS]at e;have e:=e.1.1;simp at e⊢;exact⟨e.1.1,e.2.1⟩
  have q:g<P.types.size:=by simpa using q
  obtain⟨d,v⟩:∃d,P.types.size=d+1:=⟨P.types.size-1,(Nat.succ_pred_eq_of_pos (Afr (Abg _) q)).symm⟩;have B:P.keyLits (P.types.size+1) g [.int .i64 a, .int .i64 b]=Ac [.int .i64 a, .int .i64 b]:=by
   unfold GO.keyLits;simp only[n];rw[if_pos ⟨by rw[c];rfl,C⟩];have w:P.keyLits P.types.size j.type ((([.int .i64 a, .int .i64 b]:List Ce).drop j.offset).take (P.cellsOf j.type))=Ac [.int .i64 a]:=by rw[r,o,v];exact K' t y
   have x:P.keyLits P.types.size k.type ((([.int .i64 a, .int .i64 b]:List Ce).drop k.offset).take (P.cellsOf k.type))=Ac [.int .i64 b]:=by rw[s,p,v];exact K' u z
   simp[w,x]
  unfold keyOf;rw[n];have A:(P.keyType g&&(Ce.agg #[.int .i64 a, .int .i64 b]).formed P g)=Br:=by rw[e,Ali];unfold Ce.formed;rw[n];simp[c]
  rw[if_pos A];show(P.keyLits (P.types.size+1) g [.int .i64 a, .int .i64 b]).map _=_;grind
 grind
noncomputable def mkP{g:Gn}(n:laidOutB P=Br)(h:OE P g=Br):NT P g (Int×Int)where
 val x:= .agg #[.int .i64 x.1, .int .i64 x.2]
 lit:=VK
 ok x:=DY x.1/\DY x.2
 keyed:=by
  unfold OE at h;simp only[AS]at h;obtain⟨⟨a,c⟩,i,d⟩:=h;have a:g<P.types.size:=by simp_all
  have c:P.types.size+2<=10000:=by simp_all
  refine Maps.Keyed.of_law (deep_law_laid n (m:=P.types.size+1) (by omega) a i ?_);grind
 of x b:=by grind[VK,PJ]
 key x:=by unfold VK;split<;>trivial
 inj x y e:=by
  unfold VK at e;split at e
  ·rename_i b;split at e
   ·rename_i o;have f:=h;unfold OE at f;simp only[AS]at f;obtain⟨⟨a,c⟩,i,d⟩:=f;have a:g<P.types.size:=by simpa using a
    have c:P.types.size+2<=10000:=by simpa using c
    have r:=deep_law_laid n (m:=P.types.size+1) (by omega) a i (by
     split at d;· rename_i j;rw[j]
     ·cases d);have l:=PJ h b.1 b.2;rw[e]at l;have:=r.inj l (PJ h o.1 o.2);simp at this;exact Aby this.1 this.2
   grind
  grind[np,gn,pX,Prod.ext,gl]
end
end Go.GV
namespace Go.GK
section
variable {w : IK} {H : Hp} {O : List Aw} {i : Nat} {v : Ce} {e e' : Gn} {n sz : Nat} {xs : List Ce} {rs : List (Option (Nat × List Ce))}
section
variable{α:Type}{j:Nat}{s:α}
def FQ(e':Gn)(sz:Nat):List Ce->List (Option (Nat×List Ce))->List Aw
 |u::xs,Ac (m,ys)::rs=> .row u e' sz m ys::FQ e' sz xs rs
 |_::xs,Dc::rs=> .emp::FQ e' sz xs rs
 |_,_=>[]
theorem Qi:∀ {xs:List Ce} {rs:List (Option (Nat×List Ce))} {a:Nat} {r:Aw},(FQ e' sz xs rs)[a]?=Ac r->∃u,xs[a]?=Ac u/\((∃m ys,rs[a]?=Ac (Ac (m,ys))/\r= .row u e' sz m ys)\/r= .emp)
 |u::xs,Ac (m,ys)::rs,0,r,h=>by simp[FQ]at h;exact⟨u,rfl, .inl ⟨m,ys,rfl,h.symm⟩⟩
 |u::xs,Ac (m,ys)::rs,a+1,r,h=>by have:=Qi (xs:=xs) (rs:=rs) (a:=a) (r:=r) (by simpa [FQ]using h);simpa using this
 |u::xs,Dc::rs,0,r,h=>by simp[FQ]at h;exact⟨u,rfl, .inr h.symm⟩
 |u::xs,Dc::rs,a+1,r,h=>by have:=Qi (xs:=xs) (rs:=rs) (a:=a) (r:=r) (by simpa [FQ]using h);simpa using this
 | [],_,_,_,h=>by simp[FQ]at h
 |_::_,[],_,_,h=>by simp[FQ]at h
theorem Qj:∀ {xs:List Ce} {rs:List (Option (Nat×List Ce))} {a:Nat} {u:Ce} {m:Nat} {ys:List Ce},xs[a]?=Ac u->rs[a]?=Ac (Ac (m,ys))->(FQ e' sz xs rs)[a]?=Ac (.row u e' sz m ys)
 |_::_,Ac (_,_)::_,0,_,_,_,h,k=>by simp at h k;obtain⟨rfl,rfl⟩:=k;subst h;rfl
 |_::_,Dc::_,0,_,_,_,_,k=>by simp at k
 |_::xs,Ac (_,_)::rs,a+1,_,_,_,h,k=>by simp only[FQ,Acs];exact Qj (by simpa using h) (by simpa using k)
 |_::xs,Dc::rs,a+1,_,_,_,h,k=>by simp only[FQ,Acs];exact Qj (by simpa using h) (by simpa using k)
 | [],_,_,_,_,_,h,_=>by simp at h
 |_::_,[],_,_,_,_,_,k=>by simp at k
theorem Qg:∀ {xs:List Ce} {rs:List (Option (Nat×List Ce))} {a:Nat} {u:Ce} {q:Nat×List Ce} {m:Nat} {ys:List Ce},xs[a]?=Ac u->rs[a]?=Ac (Ac q)->(FQ e' sz xs rs).set a (.row u e' sz m ys)=FQ e' sz xs (rs.set a (Ac (m,ys)))
 |_::_,Ac (_,_)::_,0,_,_,_,_,h,_=>by simp at h;subst h;rfl
 |_::_,Dc::_,0,_,_,_,_,_,k=>by simp at k
 |_::xs,Ac (_,_)::rs,a+1,_,_,_,_,h,k=>by simp only[FQ,Afs];rw[Qg (by simpa using h) (by simpa using k)]
 |_::xs,Dc::rs,a+1,_,_,_,_,h,k=>by simp only[FQ,Afs];rw[Qg (by simpa using h) (by simpa using k)]
 | [],_,_,_,_,_,_,h,_=>by simp at h
 |_::_,[],_,_,_,_,_,_,k=>by simp at k
theorem Cl{O:List α}{r:α}(h:(O.set i r)[j]?=Ac s):(j=i/\s=r)\/(j≠i/\O[j]?=Ac s):=by
 rw[Aem]at h;by_cases e:i=j
 ·subst e;by_cases a:i<O.length;· simp[a]at h;exact .inl ⟨rfl,h.symm⟩
  ·simp[a]at h
 ·simp[e]at h;exact .inr ⟨λx=>e x.symm,h⟩
theorem Pb{A B:List α}(h:(A++B)[j]?=Ac s):(j<A.length/\A[j]?=Ac s)\/∃a,j=A.length+a/\B[a]?=Ac s:=by
 by_cases b:j<A.length;· rw[Aaa b]at h;exact .inl ⟨b,h⟩
 ·rw[Aac (by omega)]at h;exact .inr ⟨j-A.length,by omega,h⟩
theorem SH.flat(h:SH w H O)(hi:O[i]?=Ac (.Cr v e n xs e' sz rs)):SH w H (O.set i (.row v e 1 n xs)++FQ e' sz xs rs):=by
 have F:IA w v e n xs e' sz rs:=h.ok i _ hi;have key:∀j r,(O.set i (.row v e 1 n xs)++FQ e' sz xs rs)[j]?=Ac r->(j≠i/\j<O.length/\O[j]?=Ac r)\/(j=i/\r= .row v e 1 n xs)\/∃a u,j=O.length+a/\xs[a]?=Ac u/\((∃m l,rs[a]?=Ac (Ac (m,l))/\r= .row u e' sz m l)\/r= .emp):=λj r s=>by
  rcases Pb s with⟨d,f⟩|⟨a,d,f⟩
  ·rcases Cl f with⟨o,p⟩|⟨o,p⟩;· exact .inr (.inl ⟨o,p⟩)
   ·exact .inl ⟨o,by simpa using d,p⟩
  ·obtain⟨u,o,p⟩:=Qi f;exact .inr (.inr ⟨a,u,by simpa using d,o,p⟩)
 refine⟨h.MQ,h.os,h.output,h.tape,λj r s=>?_,λj r b s g=>?_,λj k r q b s G g c=>?_⟩
 ·rcases key j r s with⟨_,_,d⟩|⟨_,rfl⟩|⟨a,u,_,d,⟨m,l,f,rfl⟩|rfl⟩;· exact h.ok j r d
  ·exact F.top
  ·exact F.row a u m l d f
  ·trivial
 ·rcases key j r s with⟨_,_,d⟩|⟨_,rfl⟩|⟨a,u,_,d,⟨m,l,f,rfl⟩|rfl⟩;· exact h.Iv j r b d g
  ·exact h.Iv i _ b hi (.inl g)
  ·exact h.Iv i _ b hi (.inr ⟨a,u,m,l,d,f,g⟩)
  ·exact g.elim
 ·have y:∀ {j k:Nat} {r q:Aw},(j≠i/\j<O.length/\O[j]?=Ac r)->r.has b->((k=i/\q= .row v e 1 n xs)\/∃a u,k=O.length+a/\xs[a]?=Ac u/\((∃m l,rs[a]?=Ac (Ac (m,l))/\q= .row u e' sz m l)\/q= .emp))->q.has b->False:=λ{j k r q} d g f c=>by
   rcases f with⟨_,rfl⟩|⟨a,u,_,o,⟨m,l,p,rfl⟩|rfl⟩;· exact d.1 (h.nd j i _ _ b d.2.2 hi g (.inl c))
   ·exact d.1 (h.nd j i _ _ b d.2.2 hi g (.inr ⟨a,u,m,l,o,p,c⟩))
   ·exact c.elim
  rcases key j r s with d|d
  ·rcases key k q G with f|f;· exact h.nd j k r q b d.2.2 f.2.2 g c
   ·exact(y d g f c).elim
  ·rcases key k q G with f|f;· exact(y f c d g).elim
   ·rcases d with⟨A,rfl⟩|⟨a,u,A,o,⟨m,l,p,rfl⟩|rfl⟩
    ·rcases f with⟨x,rfl⟩|⟨z,E,x,B,⟨D,t,C,rfl⟩|rfl⟩;· rw[A,x]
     ·exact absurd g (F.out z E D t b B C c)
     ·exact c.elim
    ·rcases f with⟨x,rfl⟩|⟨z,E,x,B,⟨D,t,C,rfl⟩|rfl⟩;· exact absurd c (F.out a u m l b o p g)
     ·rw[A,x,F.one a z u E m D l t b o p B C g c]
     ·exact c.elim
    ·exact g.elim
theorem SH.TU(D:i<O.length)(h:SH w H (O.set i (.row v e 1 n xs)++FQ e' sz xs rs)):SH w H (O.set i (.Cr v e n xs e' sz rs)):=by
 have top:(O.set i (.row v e 1 n xs)++FQ e' sz xs rs)[i]?=Ac (.row v e 1 n xs):=by rw[Aaa (by simpa using D)];simp[D]
 have l:∀ {a:Nat} {u:Ce} {m:Nat} {t:List Ce},xs[a]?=Ac u->rs[a]?=Ac (Ac (m,t))->(O.set i (.row v e 1 n xs)++FQ e' sz xs rs)[O.length+a]?=Ac (.row u e' sz m t):=λd f=>by rw[Aac (by simp)];simp only[Abp,Acr];exact Qj d f
 have o:∀ {j:Nat} {r:Aw},j≠i->O[j]?=Ac r->(O.set i (.row v e 1 n xs)++FQ e' sz xs rs)[j]?=Ac r:=λ{j r} s y=>by have A:=(No.1 y).1;rw[Aaa (by simpa using A),Aem,if_neg (λe=>s e.symm)];exact y
 have lt:∀ {j:Nat} {r:Aw},O[j]?=Ac r->j<O.length:=λy=>(No.1 y).1;refine⟨h.MQ,h.os,h.output,h.tape,λj r s=>?_,λj r b s g=>?_,λj k r z b s C g c=>?_⟩
 ·rcases Cl s with⟨_,rfl⟩|⟨d,f⟩
  ·refine⟨h.ok i _ top,λa u m t d f=>h.ok _ _ (l d f),λa I u K m J t G b d f p q g c=>?_,λa u m t b d f g c=>?_⟩;· have:=h.nd _ _ _ _ b (l d f) (l p q) g c;omega
   ·have:=h.nd _ _ _ _ b top (l d f) c g;omega
  ·exact h.ok _ _ (o d f)
 ·rcases Cl s with⟨_,rfl⟩|⟨d,f⟩
  ·rcases g with g|⟨a,u,m,t,d,f,g⟩;· exact h.Iv _ _ b top g
   ·exact h.Iv _ _ b (l d f) g
  ·exact h.Iv _ _ b (o d f) g
 ·have x:∀ {k:Nat} {z:Aw},k≠i->O[k]?=Ac z->(Aw.Cr v e n xs e' sz rs).has b->z.has b->False:=λ{k z} d f g c=>by
   rcases g with g|⟨a,u,m,t,p,q,g⟩;· exact d (h.nd _ _ _ _ b (o d f) top c g)
   ·have:=h.nd _ _ _ _ b (o d f) (l p q) c g;have:=lt f;omega
  rcases Cl s with⟨E,rfl⟩|⟨d,f⟩
  ·rcases Cl C with⟨B,rfl⟩|⟨p,q⟩;· rw[E,B]
   ·exact(x p q g c).elim
  ·rcases Cl C with⟨B,rfl⟩|⟨p,q⟩;· exact(x d f c g).elim
   ·exact h.nd _ _ _ _ b (o d f) (o p q) g c
end
end
end Go.GK
namespace Go.GV
open Go Go.GK
inductive PX(T:Nat->Type)where
 |sub (i n:Nat) (t:Ty)
 |sf
 |dx (t:Ty) (x:List (t.den T))
 |any
 |ub
 |sd (m:Nat)
 |hc (n:Nat)
 |fo (i:Nat)
 |fi (i:Nat)
 |fe (i j:Nat) (t:Ty)
inductive SV(T:Nat->Type)where
 |d (t:Ty) (x:t.den T)
 |na (n:Nat)
 |ct (i n:Nat)
 |cb (i n:Nat)
 |lt (i n m:Nat)
 |lb (b:Bool)
 |raw (v:Ce)
 |ud
 |no
 |loc (k off:Nat)
 |AE (k:Nat)
 |Ee (k:Nat) (i:Int) (off:Nat) (t:Ty) (x:t.den T)
 |pd (t:Ty) (x:t.den T) (off:Nat)
 |mp (k:Nat)
 |lf (s:Nat) (a l:SV T)
 |nl
 |t2 (a b:SV T)
 |t3 (a b c:SV T)
 |AA (f:Nat) (l:SV T) (cs:List Nat)
 |vn
 |vc (a l:SV T)
 |px (ks:List Nat) (p:PX T)
 |CD (j:Nat)
inductive SR(T:Nat->Type)where
 |Af (g:Gn) (l:SV T)
 |row (g:Gn) (t:Ty) (l:List (t.den T))
 |CD (j:Nat)
 |gone
 |map (g:Gn) (kt vt:Ty) (l:List (kt.den T×vt.den T))
 |Cr (g e:Gn) (t:Ty) (h:Nat) (l:List (Bool×List (t.den T)))
def Ax{α:Type} :List (Nat×α)->Nat->Option α
 | [],_=>Dc
 |(k,v)::l,t=>match Hg k t with
  |true=>Ac v
  |false=>Ax l t
def SV.AL{T:Nat->Type} :SV T->List Nat
 | .loc k _| .AE k| .Ee k _ _ _ _| .mp k=>[k]
 | .lf _ a l=>a.AL++l.AL
 | .t2 a b=>a.AL++b.AL
 | .t3 a b c=>a.AL++(b.AL++c.AL)
 | .AA _ l e=>l.AL++e
 | .vc a l=>a.AL++l.AL
 | .px g _=>g
 |_=>[]
def SR.AL{T:Nat->Type} :SR T->List Nat
 | .Af _ l=>l.AL
 | .Cr _ _ _ h _=>[h]
 |_=>[]
abbrev Rc:Nat:=9223372036854775807
section
variable {N : Df}
def CU(t:Ty)(cs:List Ce)(v:Ce):Prop:=match t.agg with
 |true=>v= .agg cs.toArray
 |false=>cs=[v]
def PX.is(us:List Ce)(H:Hp):PX N.T->Ce->Prop
 | .sub i n t,v=> ∃a m c,us=[.slice (Ac a) m c]/\i+n<=m/\v= .slice (Ac (a.add (i*t.sz N))) n n
 | .sf,v=>v= .pointer Dc\/∃B,us=[ptr B 0]/\v=ptr B 0
 | .any,_=>True
 | .ub,v=> ∃b,v= .bool b
 | .sd m,v=>(∃p,v= .pointer p)/\(0<m->∃u,us=[u]/\v=AX u 0)
 | .fo i,v=> ∃a n c,us=[.slice (Ac a) n c]/\i<n/\v=AX (.slice (Ac a) n c) i
 | .fi i,v=> ∃d u,us=[.tuple d,u]/\d[i]?=Ac v
 | .fe i j t,v=> ∃d u x,us=[.tuple d,u]/\d[i]?=Ac x/\v=AX x (j*t.sz N)
 | .hc n,v=>n<=Rc/\∃B,us=[ptr B 0]/\v= .slice (Ac ⟨B,0,Dc⟩) n n
 | .dx t x,v=>(∃a,v= .slice a x.length x.length)/\∃e,(N.c (.sl t)).BS H x e/\CU (.sl t) e v
theorem PX.mono{us:List Ce}{H a:Hp}(f:H.le a):∀ {p:PX N.T} {v:Ce},p.is us H v->p.is us a v
 | .sub _ _ _,_,h=>h
 | .sf,_,h=>h
 | .any,_,h=>h
 | .ub,_,h=>h
 | .sd _,_,h=>h
 | .hc _,_,h=>h
 | .fo _,_,h=>h
 | .fi _,_,h=>h
 | .fe _ _ _,_,h=>h
 | .dx t x,v,⟨c,b,d,e⟩=>⟨c,b,(N.c (.sl t)).mono f d,e⟩
def SV.BV(g:Nat->Ce->Prop)(η:Nat->Ce)(H:Hp):SV N.T->Ce->Prop
 | .d t x,v=> ∃h,(N.c t).BS H x h/\CU t h v
 | .na n,v=>v= .int .i64 n/\n<=Rc
 | .ct _ n,v=>v= .int .i64 n/\n<=Rc
 | .cb _ n,v=>v= .int .i64 n/\n<Rc
 | .lt _ n m,v=>v= .bool (Ds ((n:Int)<(m:Int)))/\m<=Rc
 | .lb b,v=>v= .bool b
 | .raw u,v=>v=u
 | .ud,v=>v=undef
 | .no,_=>True
 | .loc k off,v=> ∃B,η k=ptr B 0/\v=ptr B off
 | .AE k,v=>v=η k/\v.oneCell'=Br
 | .Ee k i off t _,v=>v=AX (η k) (i.toNat*t.sz N+off)/\∃a n c,η k= .slice (Ac a) n c
 | .pd t x off,v=> ∃(a:Addr) (k:Nat) (h:List Ce),v= .pointer (Ac (a.add (k+off)))/\(N.c t).BS H x h/\∀j u,h[j]?=Ac u->DX H (.pointer (Ac (a.add (k+j)))) u
 | .mp k,v=>v=η k/\v.oneCell'=Br
 | .lf s a l,v=> ∃q w u,v= .agg (q++w).toArray/\q.length=s/\a.BV g η H u/\u.cells.toList=q/\(∀x∈q,x.oneCell'=Br)/\l.BV g η H (.agg w.toArray)
 | .nl,v=>v= .agg #[]
 | .t2 a b,v=> ∃x y,v= .tuple #[x,y]/\a.BV g η H x/\b.BV g η H y
 | .t3 a b c,v=> ∃x y z,v= .tuple #[x,y,z]/\a.BV g η H x/\b.BV g η H y/\c.BV g η H z
 | .AA f l h,v=> ∃o:List Ce,v= .func (.func f) o.toArray (h.map η).toArray/\l.BV g η H (.tuple o.toArray)
 | .vn,v=>v= .tuple #[]
 | .vc a l,v=> ∃(u:Ce) (o:List Ce),v= .tuple (u::o).toArray/\a.BV g η H u/\l.BV g η H (.tuple o.toArray)
 | .px E p,v=>p.is (E.map η) H v
 | .CD j,v=>g j v
def SV.is(C:List (SV N.T))(η:Nat->Ce)(H:Hp):SV N.T->Ce->Prop:=SV.BV (λj v=> ∃s,C[j]?=Ac s/\SV.BV (λ_ _=>False) η H s v) η H
section
variable{H:Hp}
theorem SV.BV.imp{g p:Nat->Ce->Prop}{η:Nat->Ce}{H:Hp}(e:∀j v,g j v->p j v):∀ {s:SV N.T} {v:Ce},s.BV g η H v->s.BV p η H v
 | .d t x,v,h=>h
 | .na _,_,h=>h
 | .ct _ _,_,h=>h
 | .cb _ _,_,h=>h
 | .lt _ _ _,_,h=>h
 | .lb _,_,h=>h
 | .raw _,_,h=>h
 | .ud,_,h=>h
 | .no,_,h=>h
 | .loc _ _,_,h=>h
 | .AE _,_,h=>h
 | .Ee _ _ _ _ _,_,h=>h
 | .pd t x off,v,h=>h
 | .mp _,_,h=>h
 | .lf s a l,v,⟨q,r,u,i,k,m,n,B,C⟩=>⟨q,r,u,i,k,SV.BV.imp e m,n,B,SV.BV.imp e C⟩
 | .nl,_,h=>h
 | .t2 a b,v,⟨x,y,i,k,m⟩=>⟨x,y,i,SV.BV.imp e k,SV.BV.imp e m⟩
 | .t3 a b c,v,⟨x,y,z,i,k,m,n⟩=>⟨x,y,z,i,SV.BV.imp e k,SV.BV.imp e m,SV.BV.imp e n⟩
 | .AA f l J,v,⟨o,i,k⟩=>⟨o,i,SV.BV.imp e k⟩
 | .vn,_,h=>h
 | .vc a l,v,⟨u,o,i,k,m⟩=>⟨u,o,i,SV.BV.imp e k,SV.BV.imp e m⟩
 | .px _ _,_,h=>h
 | .CD j,v,h=>e j v h
def Ev(a:Ty)(H:Hp){κ:Type} :List (κ×a.den N.T)->List (κ×Ce)->Prop
 | [],[]=>True
 |p::l,q::m=>p.1=q.1/\(∃b,(N.c a).BS H p.2 b/\CU a b q.2)/\Ev a H l m
 |_,_=>False
theorem Ev.mono{a:Ty}{H b:Hp}(c:H.le b){κ:Type} :∀ {l:List (κ×a.den N.T)} {m:List (κ×Ce)},Ev a H l m->Ev a b l m
 | [],[],h=>h
 |p::l,q::m,⟨e,⟨d,f,g⟩,i⟩=>⟨e,⟨d,(N.c a).mono c f,g⟩,Ev.mono c i⟩
 | [],_::_,h=>h.elim
 |_::_,[],h=>h.elim
def RX(H:Hp)(B:Nat)(g:Gn)(b:Ty):(c:Ty)->List (c.den N.T×b.den N.T)->Aw->Prop
 | .str,l,r=> ∃(P:GO) (K:NT P g Ay) (a:List (Ay×Ce)),N.prog=Ac P/\(∀x,K.val x=sv x)/\(∀x,x.length<=Aj->K.ok x)/\r=Kq K B a/\Ev (κ:=Ay) b H l a
 | .int .i64,l,r=> ∃(P:GO) (K:NT P g Int) (a:List (Int×Ce)),N.prog=Ac P/\(∀x,K.val x= .int .i64 x)/\(∀x,DY x->K.ok x)/\r=Kq K B a/\Ev (κ:=Int) b H l a
 | .st (.pr (.int .i64) (.int .i64)),l,r=> ∃(P:GO) (K:NT P g (Int×Int)) (a:List ((Int×Int)×Ce)),N.prog=Ac P/\(∀x,K.val x= .agg #[.int .i64 x.1, .int .i64 x.2])/\(∀x,DY x.1/\DY x.2->K.ok x)/\r=Kq K B a/\Ev (κ:=Int×Int) b H l a
 |_,_,_=>False
theorem RX.mono{m:Hp}(i:H.le m){B:Nat}{g:Gn}{k j:Ty}{l:List (j.den N.T×k.den N.T)}{r:Aw}(h:RX H B g k j l r):RX m B g k j l r:=by
 unfold RX at h;split at h;· obtain⟨P,K,f,a,b,c,d,e⟩:=h;exact⟨P,K,f,a,b,c,d,e.mono i⟩
 ·obtain⟨P,K,f,a,b,c,d,e⟩:=h;exact⟨P,K,f,a,b,c,d,e.mono i⟩
 ·obtain⟨P,K,f,a,b,c,d,e⟩:=h;exact⟨P,K,f,a,b,c,d,e.mono i⟩
 grind
structure NU{α:Type}(c:Cd α)(H:Hp)(l:List (Bool×List α))(xs:List Ce)(rs:List (Option (Nat×List Ce))):Prop where
 len:xs.length=l.length
 Pz:rs.length=l.length
 own:∀(i:Nat) (d:List α),l[i]?=Ac (Br,d)->∃ys,rs[i]?=Ac (Ac (d.length,ys))/\A2 c H d ys
 not:∀(i:Nat) (d:List α),l[i]?=Ac (Ak,d)->rs[i]?=Ac Dc
theorem NU.mono{α:Type}{c:Cd α}{a:Hp}(g:H.le a){l:List (Bool×List α)}{xs:List Ce}{rs:List (Option (Nat×List Ce))}(h:NU c H l xs rs):NU c a l xs rs:=
 ⟨h.len,h.Pz,λi d f=>by obtain⟨j,b,e⟩:=h.own i d f;exact⟨j,b,e.mono g⟩,h.not⟩
def SR.is(C:List (SV N.T))(η:Nat->Ce)(H:Hp)(k:Nat):SR N.T->Aw->Prop
 | .Af g l,r=> ∃B b,η k=ptr B 0/\r= .Af B (.cells b g (0,0))/\l.is C η H (.agg b)
 | .row g t l,r=> ∃a,r= .row (η k) g (t.sz N) l.length a/\A2 (N.c t) H l a
 | .CD _,_=>False
 | .gone,_=>False
 | .map g f i l,r=> ∃B,η k= .map (Ac B)/\RX H B g i f l r
 | .Cr g e t h l,r=> ∃a c,r= .Cr (η k) g l.length a e (t.sz N) c/\η h= .tuple a.toArray/\NU (N.c t) H l a c
end
section
variable{η:Nat->Ce}{H:Hp}{T:Nat->Type}{C:List (SV N.T)}{η':Nat->Ce}{k:Nat}{r:Aw}{s:SV N.T}{v:Ce}
theorem SV.BV.mono{g:Nat->Ce->Prop}{η:Nat->Ce}{H r:Hp}(e:H.le r):∀ {s:SV N.T} {v:Ce},s.BV g η H v->s.BV g η r v
 | .d t x,v,⟨o,i,m⟩=>⟨o,(N.c t).mono e i,m⟩
 | .na _,_,h=>h
 | .ct _ _,_,h=>h
 | .cb _ _,_,h=>h
 | .lt _ _ _,_,h=>h
 | .lb _,_,h=>h
 | .raw _,_,h=>h
 | .ud,_,h=>h
 | .no,_,h=>h
 | .loc _ _,_,h=>h
 | .AE _,_,h=>h
 | .Ee _ _ _ _ _,_,h=>h
 | .pd t x off,v,⟨b,k,o,i,m,n⟩=>⟨b,k,o,i,(N.c t).mono e m,λj u G=>(n j u G).mono e⟩
 | .mp _,_,h=>h
 | .lf s a l,v,⟨w,A,u,i,m,n,p,D,E⟩=>⟨w,A,u,i,m,SV.BV.mono e n,p,D,SV.BV.mono e E⟩
 | .nl,_,h=>h
 | .t2 a b,v,⟨x,y,i,m,n⟩=>⟨x,y,i,SV.BV.mono e m,SV.BV.mono e n⟩
 | .t3 a b c,v,⟨x,y,z,i,m,n,p⟩=>⟨x,y,z,i,SV.BV.mono e m,SV.BV.mono e n,SV.BV.mono e p⟩
 | .AA f l o,v,⟨q,i,m⟩=>⟨q,i,SV.BV.mono e m⟩
 | .vn,_,h=>h
 | .vc a l,v,⟨u,q,i,m,n⟩=>⟨u,q,i,SV.BV.mono e m,SV.BV.mono e n⟩
 | .px _ _,_,h=>PX.mono e h
 | .CD _,_,h=>h
theorem SV.is.mono{a:Hp}(b:H.le a)(h:s.is C η H v):s.is C η a v:=SV.BV.imp (λ_ _ ⟨s,e,h⟩=>⟨s,e,SV.BV.mono b h⟩) (SV.BV.mono b h)
theorem SV.BV.env{g:Nat->Ce->Prop}{η η':Nat->Ce}{H:Hp} :∀ {s:SV N.T} {v:Ce},(∀k∈s.AL,η' k=η k)->s.BV g η H v->s.BV g η' H v
 | .d t x,v,_,h=>h
 | .na _,_,_,h=>h
 | .ct _ _,_,_,h=>h
 | .cb _ _,_,_,h=>h
 | .lt _ _ _,_,_,h=>h
 | .lb _,_,_,h=>h
 | .raw _,_,_,h=>h
 | .ud,_,_,h=>h
 | .no,_,_,h=>h
 | .loc k _,_,e,h=>by grind[SV.BV,SV.AL]
 | .AE k,_,e,h=>by grind[SV.BV,SV.AL]
 | .Ee k _ _ _ _,_,e,h=>by grind[SV.BV,SV.AL]
 | .pd t x off,v,_,h=>h
 | .mp k,_,e,h=>by grind[SV.BV,SV.AL]
 | .lf s a l,v,e,⟨w,A,u,j,m,n,o,E,F⟩=>⟨w,A,u,j,m,SV.BV.env (λk i=>e k (by grind[SV.AL])) n,o,E,SV.BV.env (λk i=>e k (by grind[SV.AL])) F⟩
 | .nl,_,_,h=>h
 | .t2 a b,v,e,⟨x,y,j,m,n⟩=>⟨x,y,j,SV.BV.env (λk i=>e k (by grind[SV.AL])) m,SV.BV.env (λk i=>e k (by grind[SV.AL])) n⟩
 | .t3 a b c,v,e,⟨x,y,z,j,m,n,o⟩=>⟨x,y,z,j,SV.BV.env (λk i=>e k (by grind[SV.AL])) m,SV.BV.env (λk i=>e k (by grind[SV.AL])) n,SV.BV.env (λk i=>e k (by grind[SV.AL])) o⟩
 | .AA f l M,v,e,⟨r,j,m⟩=>⟨r,by simp_all[SV.AL],SV.BV.env (λk i=>e k (by grind[SV.AL])) m⟩
 | .vn,_,_,h=>h
 | .vc a l,v,e,⟨u,r,j,m,n⟩=>⟨u,r,j,SV.BV.env (λk i=>e k (by grind[SV.AL])) m,SV.BV.env (λk i=>e k (by grind[SV.AL])) n⟩
 | .px q p,v,e,h=>by have D:q.map η'=q.map η:=Abr λk i=>e k (by trivial);show p.is (q.map η') H v;rw[D];exact h
 | .CD _,_,_,h=>h
def C3{T:Nat->Type}(C:List (SV T)):List Nat:=C.flatMap SV.AL
theorem XD{C:List (SV T)}{j:Nat}{s:SV T}(a:C[j]?=Ac s)(h:k∈s.AL):k∈C3 C:=Pe.2 ⟨s,Aai a,h⟩
theorem SV.is.env(a:∀k∈C3 C,η' k=η k)(c:∀k∈s.AL,η' k=η k)(h:s.is C η H v):s.is C η' H v:=
 SV.BV.imp (λ_ _ ⟨s,e,h⟩=>⟨s,e,SV.BV.env (λk b=>a k (XD e b)) h⟩) (SV.BV.env c h)
theorem SR.is.mono{i:Hp}(c:H.le i){s:SR N.T}(h:s.is C η H k r):s.is C η i k r:=by
 cases s with
 |Af g l=>obtain⟨B,m,a,b,d⟩:=h;exact⟨B,m,a,b,d.mono c⟩
 |row g t l=>obtain⟨f,a,b⟩:=h;exact⟨f,a,b.mono c⟩
 |CD j=>exact h
 |gone=>exact h
 |map g q u l=>obtain⟨B,a,b⟩:=h;exact⟨B,a,b.mono c⟩
 |Cr g e t p l=>obtain⟨f,o,a,b,d⟩:=h;exact⟨f,o,a,b,d.mono c⟩
theorem SR.is.env{s:SR N.T}(c:η' k=η k)(n:∀k∈C3 C,η' k=η k)(e:∀k∈s.AL,η' k=η k)(h:s.is C η H k r):s.is C η' H k r:=by
 cases s with
 |Af g l=>obtain⟨B,i,a,b,d⟩:=h;exact⟨B,i,c.trans a,b,d.env n e⟩
 |row g t l=>obtain⟨f,a,b⟩:=h;exact⟨f,by grind,b⟩
 |CD j=>exact h
 |gone=>exact h
 |map g u v l=>obtain⟨B,a,b⟩:=h;exact⟨B,c.trans a,b⟩
 |Cr g q t o l=>obtain⟨f,p,a,b,d⟩:=h;exact⟨f,p,by grind,(e o (by simp[SR.AL])).trans b,d⟩
structure St(T:Nat->Type)where
 L:List (Nat×SV T)
 O:List (Nat×SR T)
 nk:Nat
structure Bt(T:Nat->Type)where
 sv:SV T
 rd:List Nat
 wr:List (Nat×SR T)
def res{T:Nat->Type}(C:List (SV T)):SV T->SV T
 | .CD j=>C.getD j .no
 |s=>s
def CC(C:List (SV T))(L:List (Nat×SV T))(t:Nat):SV T:=match Ax L t with
 |some s=>res C s
 |none=> .no
def ofConst:Ce->SV T
 | .bool b=> .lb b
 |v=> .raw v
def Av(S:Nat->SV T):Er->SV T
 | .tmp t=>S t
 | .const v=>ofConst v
 | .global _=> .no
 | .func f=> .AA f .vn []
theorem Ug(v:Ce):(ofConst (T:=N.T) v).is C η H v:=by unfold ofConst;split<;>simp[SV.is,SV.BV]
theorem EU{C:List (SV N.T)}{η:Nat->Ce}{H:Hp}{s:SV N.T}{v:Ce}(h:s.is C η H v):(res C s).is C η H v:=by
 unfold res;split;· obtain⟨s,e,h⟩:=h;rw[Aad,e];exact SV.BV.imp (λ_ _ h=>h.elim) h
 omega
theorem bR{S:Nat->SV N.T}{a:Act}{x:Er}(h:∀t,x= .tmp t->(S t).is C η H (a.tmps.getD t undef)):(Av S x).is C η H (a.eval x):=by
 cases x with
 |tmp t=>exact h t rfl
 |const v=>exact Ug v
 |global g=>trivial
 |func f=>exact⟨[],rfl,rfl⟩
end
end
section
variable{k:Nat}{Y:List (Nat×Aw)}{r x:Aw}
def keys{α:Type}(Y:List (Nat×α)):List Nat:=Y.map (·.1)
theorem A5{α:Type}{Y:List (Nat×α)}{k:Nat}{x:α}(h:Ax Y k=Ac x):(k,x)∈Y:=by
 induction Y with
 |nil=>cases h
 |cons p Y b=>
  grind[Ax,aP,List.mem_cons_of_mem]
theorem CG{α:Type}{Y:List (Nat×α)}{k:Nat}(h:k∉keys Y):Ax Y k=Dc:=by
 cases a:Ax Y k with
 |none=>rfl
 |some x=>exact absurd (By.2 ⟨_,A5 a,rfl⟩) h
theorem Dd{α:Type}{Y:List (Nat×α)}{k:Nat}{x:α}(h:Ax Y k=Ac x):k∈keys Y:=By.2 ⟨_,A5 h,rfl⟩
theorem Du{α:Type}{Y:List (Nat×α)}(h:k∈keys Y):∃x,Ax Y k=Ac x:=by
 induction Y with
 |nil=>cases h
 |cons p Y b=>
  obtain⟨q,y⟩:=p;simp only[keys,Aat,Aao]at h;simp only[Ax];cases a:Hg q k with
  |true=>simp
  |false=>
   rcases h with e|h;· simp_all
   ·exact b h
theorem CT{α:Type}{Y:List (Nat×α)}(b:(keys Y).Nodup){k:Nat}{x:α}(h:(k,x)∈Y):Ax Y k=Ac x:=by
 induction Y with
 |nil=>grind
 |cons p Y f=>
  obtain⟨q,y⟩:=p;simp only[keys,Aat,Aba]at b;simp only[Ax];rcases Aao.1 h with e|h;· simp_all
  ·have:Hg q k=Ak:=by
    grind[Hg,absurd,aP]
   rw[this];exact f b.2 h
theorem BX{α:Type}(A B:List (Nat×α))(k:Nat):Ax (A++B) k=match Ax A k with|some x=>Ac x|none=>Ax B k:=by
 induction A with
 |nil=>rfl
 |cons p A a=>
  grind[Ax]
theorem CM{α:Type}(k:Nat)(v:α)(l:List (Nat×α)):Ax ((k,v)::l) k=Ac v:=by simp[Ax]
theorem A3{α:Type}{q k:Nat}(h:q≠k)(v:α)(l:List (Nat×α)):Ax ((q,v)::l) k=Ax l k:=by grind[Hg,absurd,Ax,aP]
def Ih(Y:List (Nat×Aw))(k:Nat)(r:Aw):List (Nat×Aw):=Y.map λp=>(p.1,match Hg p.1 k with|true=>r|false=>p.2)
theorem EN(Y:List (Nat×Aw))(k:Nat)(r:Aw):keys (Ih Y k r)=keys Y:=by simp[keys,Ih]
theorem Q'(h:Ax Y k=Ac x):Ax (Ih Y k r) k=Ac r:=by
 induction Y with
 |nil=>cases h
 |cons p Y b=>
  grind[Ih,Ax,Hg]
theorem Pn{j:Nat}(h:j≠k):Ax (Ih Y k r) j=Ax Y j:=by
 induction Y with
 |nil=>rfl
 |cons p Y b=>
  grind[Ih,Ax,Hg,absurd,aP]
theorem Jj(Of:List Aw)(c:(keys Y).Nodup)(h:Ax Y k=Ac x):∃i,(Y.map (·.2)++Of)[i]?=Ac x/\∀r,(Y.map (·.2)++Of).set i r=(Ih Y k r).map (·.2)++Of:=by
 induction Y with
 |nil=>cases h
 |cons p Y g=>
  obtain⟨q,y⟩:=p;simp only[Ax]at h;simp only[keys,Aat,Aba]at c;cases a:Hg q k with
  |true=>
   rw[a]at h;cases h;have:=AI a;refine⟨0,rfl,λr=>?_⟩;simp only[Aat,Afh,Aht,Ih,Agl];grind[Hg,absurd,List.map_map,Alx,aP]
  |false=>
   rw[a]at h;obtain⟨i,d,e⟩:=g c.2 h;refine⟨i+1,by simpa using d,λr=>?_⟩;grind[Ih]
end
section
variable {N : Df} {C : List (SV N.T)}
section
variable{P:GO}{S:Nat->SV N.T}{R:Nat->Option (SR N.T)}{o:K5}{k:Nat}
def Dp(C:List (SV N.T))(η:Nat->Ce)(H:Hp)(Y:List (Nat×Aw))(k:Nat)(a:SR N.T):Prop:=a= .gone\/∃x,Ax Y k=Ac x/\a.is C η H k x
def Ao(P:GO)(C:List (SV N.T))(S:Nat->SV N.T)(R:Nat->Option (SR N.T))(o:K5)(s:Bt N.T):Prop:= ∀(η:Nat->Ce) (H:Hp) (g:List Aw) (a:Act) (w:IK) (Y:List (Nat×Aw)),(keys Y).Nodup->SH w H (Y.map (·.2)++g)->N.inv H->(∀x∈o.op.operands,(Av S x).is C η H (a.eval x))->(∀k,(k∈s.rd\/k∈keys s.wr)->∀e,R k=Ac e->Dp C η H Y k e)->(∀k∈keys s.wr,R k=Dc->k∉keys Y)->∀(K:Act->IK->Prop) (Q:Exit->Act->IK->Prop),(∀(v:Ce) (h:IK) (f:Hp) (c:Nat->Ce) (d:List (Nat×Aw)),H.le f->(∀k,(R k=Dc->k∉keys s.wr)->c k=η k)->(∀k,k∉keys s.wr->Ax d k=Ax Y k)->(∀k e,Ax s.wr k=Ac e->Dp C c f d k e)->(keys d).Nodup->(∀k∈keys d,k∈keys Y\/k∈keys s.wr)->SH h f (d.map (·.2)++g)->s.sv.is C c f v->K (a.put o.dst v) h)->o.wp P a w K Q
abbrev EV(a:Act):Er->Option Ce:=λx=>Ac (a.eval x)
theorem Abu{sv:SV N.T}{m:List Nat}
  (h:∀(η:Nat->Ce) (H:Hp) (O:List Aw) (a:Act),(∀x∈o.op.operands,(Av S x).is C η H (a.eval x))->(∀k∈m,∀b,R k=Ac b->b= .gone\/∃(x:Aw) (i:Nat),O[i]?=Ac x/\b.is C η H k x)->∃v,Aq P o.op o.type (EV a) H O v/\sv.is C η H v):
  Ao P C S R o ⟨sv,m,[]⟩:=by
 intro η H g a w Y j l B z y _ K Q t;obtain⟨v,r,s⟩:=h η H (Y.map (·.2)++g) a z λk c b d=>(y k (.inl c) b d).imp id λ⟨x,n,p⟩=>by obtain⟨i,q,_⟩:=Jj g j n;grind
 refine Aeu (r a w o rfl rfl (λx u e=>by grind) l) l λA f=>?_;exact t v A H η Y (Hp.le.refl H) (λ_ _=>rfl) (λ_ _=>rfl) (λk b h=>by cases h) j (λk c=> .inl c) f s
theorem Afv{sv:SV N.T}{t:List Nat}{g y:SR N.T}(J:R k=Ac g)(h0:g≠ .gone)
  (h:∀(η:Nat->Ce) (H:Hp) (O:List Aw) (a:Act) (x:Aw) (i:Nat),(∀x∈o.op.operands,(Av S x).is C η H (a.eval x))->O[i]?=Ac x->g.is C η H k x->(∀k∈t,∀c,R k=Ac c->c= .gone\/∃(x:Aw) (i:Nat),O[i]?=Ac x/\c.is C η H k x)->
   ∃f,y.is C η H k f/\BP P o.op o.type (EV a) H O (λv l q=>l=H/\q=O.set i f/\sv.is C η H v)):
  Ao P C S R o ⟨sv,t,[(k,y)]⟩:=by
 intro η H m a w Y n M hi T s _ K Q G;rcases s k (.inr (by simp[keys])) g J with e|⟨x,r,D⟩;· trivial
 obtain⟨i,E,F⟩:=Jj m n r;obtain⟨f,U,V⟩:=h η H (Y.map (·.2)++m) a x i T E D λj b c p=>(s j (.inl b) c p).imp id λ⟨x,W,X⟩=>by obtain⟨i,Z,_⟩:=Jj m n W;exact⟨x,i,Z,X⟩
 refine V a w o K Q rfl rfl (λx u e=>by simpa using e) M λv w' l q L ⟨z,A,B⟩ d=>?_;subst z;subst A;rw[F]at d;refine G v w' l η (Ih Y k f) (Hp.le.refl _) (λ_ _=>rfl) (λj b=>Pn λe=>b (by subst e;simp[keys])) (λj c b=>?_) (by rw[EN];exact n) (λj b=> .inl (by rw[EN]at b;exact b)) d B;simp only[Ax]at b;split at b;· rename_i I;have:=AI I;subst this;cases b;exact .inr ⟨f,Q' r,U⟩
 grind
def Ez(η:Nat->Ce)(k:Nat)(v:Ce):Nat->Ce:=λj=>match Hg j k with
 |true=>v
 |false=>η j
theorem AD(η:Nat->Ce)(k:Nat)(v:Ce):Ez η k v k=v:=by simp[Ez]
theorem EH{η:Nat->Ce}{j:Nat}{v:Ce}(h:j≠k):Ez η k v j=η j:=by grind[Ez,Hg,absurd,aP]
theorem Afe{sv:SV N.T}{y:List Nat}{z:SR N.T}(s:R k=Dc)
  (h:∀(η:Nat->Ce) (H:Hp) (O:List Aw) (a:Act),(∀x∈o.op.operands,(Av S x).is C η H (a.eval x))->(∀k∈y,∀f,R k=Ac f->f= .gone\/∃(x:Aw) (i:Nat),O[i]?=Ac x/\f.is C η H k x)->
   BP P o.op o.type (EV a) H O (λv l q=>l=H/\∃g b,q=g::O/\z.is C (Ez η k b) H k g/\sv.is C (Ez η k b) H v)):
  Ao P C S R o ⟨sv,y,[(k,z)]⟩:=by
 intro η H r a w Y t L X M J d K Q F;have m:=d k (by simp[keys]) s;refine h η H (Y.map (·.2)++r) a M (λj c f n=>(J j (.inl c) f n).imp id λ⟨x,T,U⟩=>by obtain⟨i,V,_⟩:=Jj r t T;grind) a w o K Q rfl rfl (λx u e=>by grind) L λv W l q I ⟨A,g,b,B,D,E⟩ p=>?_;subst A;subst B;refine F v W l (Ez η k b) ((k,g)::Y) (Hp.le.refl _) (λj c=>EH λe=>?_) (λj c=>A3 (λe=>c (by subst e;simp[keys])) _ _) (λj f c=>?_) (Aba.2 ⟨m,t⟩) (λj c=>?_) p E;· subst e;exact c s (by simp[keys])
 ·simp only[Ax]at c;split at c;· rename_i G;have:=AI G;subst this;cases c;exact .inr ⟨g,CM _ _ _,D⟩
  ·cases c
 grind[keys]
end
end
def Ps(P:GO)(t:Gn)(n:Nat):Bool:=match P.info? t with
 |some i=>Hg i.size n&&i.zero.isSome
 |none=>Ak
theorem Dt{P:GO}{t:Gn}{n:Nat}(h:Ps P t n=Br):∃bytes z,TI P t n bytes z:=by
 unfold Ps at h;split at h;· rename_i i a;simp only[AS]at h;obtain⟨z,b⟩:=Abk.1 h.2;exact⟨i.bytes,z,i,a,AI h.1,rfl,b⟩
 grind
def rh(k:Lm)(n:Int):Bool:=match k with
 | .i64=>Br
 | .u8=>Ds (0<=n)&&Ds (n<=255)
 |k=>Ds (k.min<=n)&&Ds (n<=k.max)
theorem bF{k:Lm}{n:Int}(h:rh k n=Br):UE k n:=by cases k<;>simp_all [rh,UE]
def Zb:List Ce->Bool
 | .int .u64 a:: .int .u64 b:: .int .u64 c:: .int .u64 d::_=>Ds (a=0)&&Ds (b=0)&&Ds (c=0)&&Ds (d=0)
 |_=>Ak
def Qr(T:Nat->Type)(a b:Ty):Option (a.den T->b.den T):=if h:a.JM b=Br then Ac (Td h)else Dc
theorem BB{T:Nat->Type}{a b:Ty}{f:a.den T->b.den T}(h:Qr T a b=Ac f):∃h:a.JM b=Br,f=Td h:=by grind[Qr]
def rep{α:Type}(p:List Ce->Option (α×List Ce)):Nat->List Ce->Option (List α×List Ce)
 |0,a=>Ac ([],a)
 |n+1,a=>match p a with
  |some (x,r)=>match rep p n r with
   |some (l,r)=>Ac (x::l,r)
   |none=>Dc
  |none=>Dc
section
variable (N : Df)
def parse:Nat->(t:Ty)->List Ce->Option (t.den N.T×List Ce)
 |0,_,_=>Dc
 |d+1,t,c=>match t with
  | .int k=>match c with
   | .int e n::r=>match kb k e&&rh k n with
    |true=>Ac (n,r)
    |false=>Dc
   |_=>Dc
  | .bool=>match c with
   | .bool b::r=>Ac (b,r)
   |_=>Dc
  | .str=>match c with
   | .string s::r=>Ac (s.data.toList,r)
   |_=>Dc
  | .sl _=>match c with
   | .slice Dc 0 0::r=>Ac ([],r)
   |_=>Dc
  | .st a=>parse d a c
  | .pr a b=>match parse d a c with
   |some (x,r)=>match parse d b r with
    |some (y,r)=>Ac ((x,y),r)
    |none=>Dc
   |none=>Dc
  | .un=>Ac ((),c)
  | .bs=>match Zb c with
   |true=>Ac (λ_=>Ak,c.drop 4)
   |false=>Dc
  | .nm i=>match parse d (N.body i) c with
   |some (x,r)=>Ac (N.wX i x,r)
   |none=>Dc
  | .ar n a=>rep (parse d a) n c
def Fh:Nat->(t:Ty)->t.den N.T->Nat->(ty:Ty)->Option (ty.den N.T)
 |0,_,_,_,_=>Dc
 |c+1,t,x,off,ty=>
  match Qr N.T t ty with
  |some f=>(match Hg off 0 with
   |true=>Ac (f x)
   |false=>Dc)
  |none=>match t,x with
   | .st a,x=>Fh c a x off ty
   | .pr a b,x=>match aT off (a.sz N)with
    |true=>Fh c a x.1 off ty
    |false=>Fh c b x.2 (off-a.sz N) ty
   | .nm i,x=>Fh c (N.body i) (N.out i x) off ty
   | .ar _ a,x=>match(show List (a.den N.T)from x)[off/a.sz N]? with
    |some y=>Fh c a y (off %a.sz N) ty
    |none=>Dc
   |_,_=>Dc
def setAt:Nat->(t:Ty)->t.den N.T->Nat->(ty:Ty)->ty.den N.T->Option (t.den N.T)
 |0,_,_,_,_,_=>Dc
 |c+1,t,x,off,ty,y=>
  match Qr N.T ty t with
  |some f=>(match Hg off 0 with
   |true=>Ac (f y)
   |false=>Dc)
  |none=>match t,x with
   | .st a,x=>setAt c a x off ty y
   | .pr a b,x=>match aT off (a.sz N)with
    |true=>(setAt c a x.1 off ty y).map λz=>(z,x.2)
    |false=>(setAt c b x.2 (off-a.sz N) ty y).map λz=>(x.1,z)
   | .nm i,x=>(setAt c (N.body i) (N.out i x) off ty y).map (N.wX i)
   | .ar _ a,x=>match(show List (a.den N.T)from x)[off/a.sz N]? with
    |some z=>(setAt c a z (off %a.sz N) ty y).map λz=>List.set (show List (a.den N.T)from x) (off/a.sz N) z
    |none=>Dc
   |_,_=>Dc
def eQ:(t:Ty)->SV N.T->Option (t.den N.T)
 |t, .d a x=>(Qr N.T a t).map (· x)
 | .int .i64, .na n=>Ac (n:Int)
 | .int .i64, .ct _ n=>Ac (n:Int)
 | .int .i64, .cb _ n=>Ac (n:Int)
 | .bool, .lb b=>Ac b
 | .bool, .lt _ n m=>Ac (Ds ((n:Int)<(m:Int)))
 |t, .px _ (.dx a l)=>(Qr N.T (.sl a) t).map λf=>f l
 |t, .raw v=>match parse N 16 t v.cells.toList with
  |some (x,[])=>(match t.agg,v with
   |true, .agg _=>Ac x
   |true,_=>Dc
   |false, .agg _=>Dc
   |false,_=>Ac x)
  |_=>Dc
 |_,_=>Dc
variable {N}
section
variable{cs:List Ce}
theorem Za(h:Zb cs=Br):cs=(O_ (λ_=>Ak)).toList++cs.drop 4:=by
 unfold Zb at h;split at h
 ·simp only[AS,decide_eq_true_eq]at h;obtain⟨⟨⟨rfl,rfl⟩,rfl⟩,rfl⟩:=h;have b:∀i,word (λ_=>Ak) i=0#64:=λi=>by
   apply Alp;grind[Jb]
  have:(O_ (λ_=>Ak)).toList=[KW (word (λ_=>Ak) 0),KW (word (λ_=>Ak) 1),KW (word (λ_=>Ak) 2),KW (word (λ_=>Ak) 3)]:=rfl;rw[this,b,b,b,b];rfl
 grind
theorem CL{H:Hp} :∀ {fu:Nat} {t:Ty} {cs r:List Ce} {x:t.den N.T},parse N fu t cs=Ac (x,r)->∃pre,cs=pre++r/\(N.c t).BS H x pre
 |0,_,_,_,_,h=>by cases h
 |fu+1, .int k,cs,r,x,h=>by
  simp only[parse]at h;split at h
  ·split at h;· rename_i o;simp only[AS]at o;cases h;have:=OH o.1;subst this;exact⟨[_],rfl,D6.2 ⟨rfl,bF o.2⟩⟩
   grind
  grind
 |fu+1, .bool,cs,r,x,h=>by
  simp only[parse]at h;split at h;· cases h;exact⟨[_],rfl,rfl⟩
  grind
 |fu+1, .str,cs,r,x,h=>by
  simp only[parse]at h;split at h;· cases h;exact⟨[_],rfl,rfl⟩
  grind
 |fu+1, .sl _,cs,r,x,h=>by
  simp only[parse]at h;split at h;· cases h;exact⟨[_],rfl,_,rfl,G5.nil⟩
  grind
 |fu+1, .st a,cs,r,x,h=>CL (fu:=fu) (t:=a) (by trivial)
 |fu+1, .pr a b,cs,r,x,h=>by
  simp only[parse]at h;split at h
  ·rename_i y u f;split at h;· rename_i z s j;cases h;obtain⟨p,rfl,c⟩:=CL (H:=H) f;obtain⟨q,rfl,d⟩:=CL (H:=H) j;exact⟨p++q,by simp,p,q,rfl,c,d⟩
   grind
  grind
 |fu+1, .un,cs,r,x,h=>by cases h;exact⟨[],rfl,rfl⟩
 |fu+1, .bs,cs,r,x,h=>by
  simp only[parse]at h;split at h;· rename_i B;cases h;exact⟨_,Za B,rfl⟩
  grind
 |fu+1, .nm i,cs,r,x,h=>by
  simp only[parse]at h;split at h;· rename_i y u f;cases h;obtain⟨p,e,c⟩:=CL (H:=H) f;exact⟨p,e,N.lay.2 (by rw[N.LG];omega)⟩
  grind
 |fu+1, .ar n a,cs,r,x,h=>by
  have key:∀(m:Nat) (cs:List Ce) (l:List (a.den N.T)) (r:List Ce),rep (parse N fu a) m cs=Ac (l,r)->∃pre,cs=pre++r/\l.length=m/\A2 (N.c a) H l pre:=by
   intro m;induction m with
   |zero=>intro cs l r h;cases h;exact⟨[],rfl,rfl,rfl⟩
   |succ m C=>
    intro cs l r h;simp only[rep]at h;split at h
    ·rename_i y u f;split at h;· rename_i D s j;cases h;obtain⟨q,w,A⟩:=CL (H:=H) f;obtain⟨p,c,d,g⟩:=C _ _ _ j;exact⟨q++p,by rw[w,c];simp,by simp[d],q,p,rfl,A,g⟩
     ·cases h
    grind
  obtain⟨p,c,d,g⟩:=key _ _ _ _ h;exact⟨p,c,d,g⟩
theorem Da{H:Hp} :∀ {fu:Nat} {t:Ty} {x:t.den N.T} {off:Nat} {ty:Ty} {y:ty.den N.T} {cs:List Ce},Fh N fu t x off ty=Ac y->(N.c t).BS H x cs->(N.c ty).BS H y ((cs.drop off).take (ty.sz N))/\off+ty.sz N<=cs.length
 |0,_,_,_,_,_,_,h,_=>by cases h
 |fu+1,t,x,off,ty,y,cs,h,g=>by
  unfold Fh at h;split at h
  ·rename_i f D;obtain⟨C,rfl⟩:=BB D;split at h;· rename_i n;have:=AI n;have o:=O5 C g;grind[Bh,List.take_length]
   grind
  ·cases t with
   |st a=>exact Da (t:=a) h g
   |pr a b=>
    obtain⟨G,I,rfl,k,e⟩:=g;have z:=Bh k;cases c:aT off (a.sz N)with
    |true=>
     simp only[c]at h
     obtain⟨d,r⟩:=Da (t:=a) h k;grind
    |false=>
     simp only[c]at h;have c:¬off<a.sz N:=λE=>by rw[show aT off (a.sz N)=Br by simpa using E]at c;grind
     obtain⟨d,r⟩:=Da (t:=b) h e;grind[List.drop_append,rA]
   |nm i=>exact Da (t:=N.body i) h (N.lay.1 g)
   |ar m a=>
    simp only at h;split at h
    ·rename_i L q;obtain⟨k,e⟩:x.length=m/\A2 (N.c a) H x cs:=g;obtain⟨w,s,_,u⟩:=e.get q;obtain⟨d,r⟩:=Da (t:=a) h s;have p:=Bh s
     have l:cs.length=x.length*a.sz N:=by rw[e.len,Bp]
     have F:=(No.1 q).1;have B:=Ago off (a.sz N);rw[Bp]at u;have K:a.sz N*(off/a.sz N)+a.sz N<=cs.length:=by rw[l,Ada,<-Adx];exact Abi _ F
     refine⟨?_,by omega⟩;rw[u,Agx,Ale,Ade,Aeh (by omega)]at d;rw[show off/a.sz N*a.sz N+off %a.sz N=off by rw[Ada];exact B]at d;exact d
    grind
   |_=>cases h
theorem oN{vs:List Ce}{p s r:Nat}(h:p+s<=cs.length)(k:r+vs.length<=s):CF cs p (CF ((cs.drop p).take s) r vs)=CF cs (p+r) vs:=by
 have e:((cs.drop p).take s).drop (r+vs.length)=(cs.drop (p+(r+vs.length))).take (s-(r+vs.length)):=by rw[Agx,Ade]
 have c:(CF ((cs.drop p).take s) r vs).length=s:=by grind[CF]
 have f:cs.drop (p+(r+vs.length))=(cs.drop (p+(r+vs.length))).take (s-(r+vs.length))++cs.drop (p+s):=by
  conv=>lhs;rw[<-Ace (s-(r+vs.length)) (cs.drop (p+(r+vs.length)))]
  grind[xI]
 grind[CF]
theorem EO{H:Hp} :∀ {fu:Nat} {t:Ty} {x z:t.den N.T} {off:Nat} {ty:Ty} {y:ty.den N.T} {cs vs:List Ce},setAt N fu t x off ty y=Ac z->(N.c t).BS H x cs->(N.c ty).BS H y vs->(N.c t).BS H z (CF cs off vs)/\off+vs.length<=cs.length
 |0,_,_,_,_,_,_,_,_,h,_,_=>by cases h
 |fu+1,t,x,z,off,ty,y,cs,vs,h,n,j=>by
  unfold setAt at h;split at h
  ·rename_i f L;obtain⟨K,rfl⟩:=BB L;split at h;· rename_i I;have:=AI I;subst this;have A:=O5 K j;have v:=Bh A;grind[CF,Bh]
   grind
  ·cases t with
   |st a=>exact EO (t:=a) h n j
   |pr a b=>
    obtain⟨q,u,rfl,l,c⟩:=n;have v:=Bh l;cases d:aT off (a.sz N)with
    |true=>
     simp only[d]at h
     obtain⟨w,e,rfl⟩:=Pd.1 h;obtain⟨g,p⟩:=EO (t:=a) e l j;refine⟨⟨CF q off vs,u,?_,g,c⟩,by grind⟩;grind[CF]
    |false=>
     simp only[d]at h;have d:¬off<a.sz N:=λM=>by rw[show aT off (a.sz N)=Br by simpa using M]at d;grind
     obtain⟨w,e,rfl⟩:=Pd.1 h;obtain⟨g,p⟩:=EO (t:=b) e c j;refine⟨⟨q,CF u (off-a.sz N) vs,?_,l,g⟩,by grind⟩;unfold CF;rw[<-v,Adt,Abl (by omega),Acv,Aaz (by omega:q.length<=off+vs.length)];grind
   |ar m a=>
    simp only at h;split at h
    ·rename_i P o;change List (a.den N.T)at x;obtain⟨w,e,rfl⟩:=Pd.1 h;obtain⟨l,c⟩:x.length=m/\A2 (N.c a) H x cs:=n;obtain⟨F,D,_,E⟩:=c.get o;obtain⟨g,p⟩:=EO (t:=a) e D j;have C:=Bh D;have B:=(No.1 o).1;have r:cs.length=x.length*a.sz N:=by rw[c.len,Bp]
     have J:=Ago off (a.sz N);have s:=c.set B g;rw[Bp]at E s;have O:a.sz N*(off/a.sz N)+a.sz N<=cs.length:=by rw[r,Ada,<-Adx];exact Abi _ B
     rw[E,oN (by rw[Ada];exact O) (by omega),show off/a.sz N*a.sz N+off %a.sz N=off by rw[Ada];exact J]at s;exact⟨⟨by rw[Abp];exact l,s⟩,by omega⟩
    ·cases h
   |nm i=>
    obtain⟨w,e,rfl⟩:=Pd.1 h;obtain⟨g,p⟩:=EO (t:=N.body i) e (N.lay.1 n) j;exact⟨N.lay.2 (by rw[N.LG];exact g),p⟩
   |_=>cases h
theorem I2{C:List (SV N.T)}{t:Ty}{s:SV N.T}{x:t.den N.T}{η:Nat->Ce}{H:Hp}{v:Ce}(h:eQ N t s=Ac x)(a:s.is C η H v):(SV.d t x).is C η H v:=by
 unfold eQ at h;split at h;· obtain⟨f,d,rfl⟩:=Pd.1 h;obtain⟨c,rfl⟩:=BB d;have e:=Adj c;subst e;exact a
 ·cases h;exact⟨[_],rfl,by rw[a.1];rfl⟩
 ·cases h;exact⟨[_],rfl,by rw[a.1];rfl⟩
 ·cases h;exact⟨[_],rfl,by rw[a.1];rfl⟩
 ·cases h;exact⟨[_],rfl,by rw[show v=_ from a];rfl⟩
 ·cases h;exact⟨[_],rfl,by rw[a.1];rfl⟩
 ·obtain⟨f,d,rfl⟩:=Pd.1 h;obtain⟨c,rfl⟩:=BB d;have e:=Adj c;subst e;exact a.2
 ·rw[<-a]at h;split at h;· rename_i y j;obtain⟨p,e,g⟩:=CL (H:=H) j;rw[Adf]at e;cases b:t.agg with
   |true=>
    rw[b]at h;cases v with
    |agg i=>cases h;exact⟨p,g,by unfold CU;rw[b];rw[<-e];rfl⟩
    |_=>grind
   |false=>
    rw[b]at h;cases v with
    |agg i=>grind
    |_=>cases h;exact⟨p,g,by unfold CU;rw[b];rw[<-e];rfl⟩
  grind
 grind
end
end
def PM{T:Nat->Type} :SV T->Bool
 | .na _| .lb _| .loc _ _| .AE _| .mp _| .AA _ _ _=>Br
 | .raw v=>v.oneCell'
 | .px _ .sf=>Br
 |_=>Ak
section
variable (N : Df)
def SO:Nat->SV N.T->Nat->Option (SV N.T)
 |0,_,_=>Dc
 |a+1,l,n=>match Hg n 0 with
  |true=>Ac l
  |false=>match l with
   | .lf s _ l=>match iJ s n with
    |true=>SO a l (n-s)
    |false=>Dc
   |_=>Dc
def KL(
     C:List (SV N.T)):Nat->(ty:Ty)->SV N.T->Option (ty.den N.T×SV N.T)
 |0,_,_=>Dc
 |c+1,ty,l=>match(match l with
   | .lf s a r=>match Hg s (ty.sz N)with
    |true=>(eQ N ty (res C a)).map λx=>(x,r)
    |false=>Dc
   |_=>Dc)with
  |some p=>Ac p
  |none=>match ty with
   | .st t=>KL C c t l
   | .pr a b=>match KL C c a l with
    |some (x,l)=>match KL C c b l with
     |some (y,l)=>Ac ((x,y),l)
     |none=>Dc
    |none=>Dc
   | .nm i=>(KL C c (N.body i) l).map λp=>(N.wX i p.1,p.2)
   |_=>Dc
def E0(C:List (SV N.T)):SV N.T->Nat->Option Ty->Option (SV N.T)
 | .lf s a l,off,b=>match aT off s with
  |true=>match Hg off 0&&(Hg s 1&&PM (res C a))with
   |true=>Ac (res C a)
   |false=>match b with
    |none=>Dc
    |some c=>match(match res C a with
      | .d t x=>Fh N 16 t x off c
      |_=>Dc)with
     |some y=>Ac (.d c y)
     |none=>match Hg off 0 with
      |true=>(KL N C 16 c (.lf s a l)).map λp=> .d c p.1
      |false=>Dc
  |false=>E0 C l (off-s) b
 |_,_,_=>Dc
def eM(C:List (SV N.T)):Nat->SV N.T->Nat->Nat->SV N.T->Option (SV N.T)
 |0,_,_,_,_=>Dc
 |e+1,l,off,c,b=>match l with
  | .lf s a l=>match aT off s with
   |true=>match Hg off 0&&iJ s c with
    |true=>(SO N 64 l (c-s)).map (.lf c b)
    |false=>match res C a with
     | .d (.st t) x=>eM C e (.lf s (.d t x) l) off c b
     | .d (.pr t u) x=>eM C e (.lf (t.sz N) (.d t x.1) (.lf (u.sz N) (.d u x.2) l)) off c b
     | .d (.nm i) x=>eM C e (.lf s (.d (N.body i) (N.out i x)) l) off c b
     | .d (.ar m t) x=>match Hg (off %t.sz N) 0&&(Hg c (t.sz N)&&aT 0 (t.sz N)),eQ N t b,(show List (t.den N.T)from x)[off/t.sz N]? with
      |true,Ac y,Ac _=>Ac (.lf s (.d (.ar m t) (show(Ty.ar m t).den N.T from(show List (t.den N.T)from x).set (off/t.sz N) y)) l)
      |_,_,_=>Dc
     |_=>Dc
   |false=>(eM C e l (off-s) c b).map (.lf s a)
  |_=>Dc
def toL:SV N.T->Option (SV N.T)
 | .lf s a l=>Ac (.lf s a l)
 | .nl=>Ac .nl
 | .d t x=>Ac (.lf (t.sz N) (.d t x) .nl)
 | .ct _ n| .cb _ n=>Ac (.lf 1 (.na n) .nl)
 | .lt _ n m=>Ac (.lf 1 (.d .bool (Ds ((n:Int)<(m:Int)))) .nl)
 |s=>match PM s with
  |true=>Ac (.lf 1 s .nl)
  |false=>Dc
variable {N} {C : List (SV N.T)}
section
variable{η:Nat->Ce}{H:Hp}{l:SV N.T}{t:Ty}{x:t.den N.T}{cs:List Ce}
theorem MA{s:SV N.T}{η:Nat->Ce}{H:Hp}{v:Ce}(h:PM s=Br)(a:s.is C η H v):v.oneCell'=Br:=by
 cases s<;>simp only[PM]at h<;>first|grind|skip
 ·rw[a.1];rfl
 ·rw[show v=_ from a];rfl
 ·rw[show v=_ from a];omega
 ·obtain⟨B,_,rfl⟩:=a;rfl
 ·exact a.2
 ·exact a.2
 ·obtain⟨c,rfl,_⟩:=a;rfl
 ·rename_i b p;cases p with
  |sf=>
   rcases a with rfl|⟨_,_,rfl⟩<;>rfl
  |_=>grind
theorem A'{v:Ce}(h:v.oneCell'=Br):v.cells.toList=[v]:=rP h
theorem CZ{t:Ty}{x:t.den N.T}{η:Nat->Ce}{H:Hp}{v:Ce}(h:(SV.d t x).is C η H v):(N.c t).BS H x v.cells.toList/\∀u∈v.cells.toList,u.oneCell'=Br:=by obtain⟨e,b,a⟩:=h;have c:=(N.c t).one b;grind[CU,Ce.cells,A']
theorem E5(h:(N.c t).BS H x cs):∃u,(SV.d t x).is C η H u/\u.cells.toList=cs:=by
 cases a:t.agg with
 |true=>exact⟨.agg cs.toArray,⟨cs,h,by grind[CU]⟩,by rfl⟩
 |false=>
  have d:t.sz N=1:=by cases t<;>simp_all [Ty.agg,Ty.sz]
  have b:=Bh h;rw[d]at b;obtain⟨v,rfl⟩:=Adb.1 b;exact⟨v,⟨[v],h,by grind[CU]⟩,A' ((N.c t).one h v (by simp))⟩
theorem K_{s:Nat}{a l:SV N.T}{η:Nat->Ce}{H:Hp}{u:Ce}{c2:List Ce}(h:a.is C η H u)(d:u.cells.toList.length=s)(c:∀x∈u.cells.toList,x.oneCell'=Br)(k:l.is C η H (.agg c2.toArray)):(SV.lf s a l).is C η H (.agg (u.cells.toList++c2).toArray):=
 ⟨u.cells.toList,c2,u,rfl,d,h,rfl,c,k⟩
theorem Uq{b c2:List Ce}(h:(N.c t).BS H x b)(k:l.is C η H (.agg c2.toArray)):(SV.lf (t.sz N) (.d t x) l).is C η H (.agg (b++c2).toArray):=by obtain⟨u,c,e⟩:=E5 (C:=C) (η:=η) h;grind[K_,Bh,CZ]
theorem ah:(SV.nl:SV N.T).is C η H (.agg ([]:List Ce).toArray):=rfl
theorem FC{s:Nat}{a:SV N.T}(h:(SV.lf s a l).is C η H (.agg cs.toArray)):∃b c2 u,cs=b++c2/\b.length=s/\a.is C η H u/\u.cells.toList=b/\(∀x∈b,x.oneCell'=Br)/\l.is C η H (.agg c2.toArray):=by obtain⟨b,c2,u,c,d⟩:=h;refine⟨b,c2,u,?_,d⟩;grind
theorem oB{s:SV N.T}{v:Ce}(h:toL N s=Ac l)(a:s.is C η H v):l.is C η H (.agg v.cells):=by
 have one:∀ {s:SV N.T},s.is C η H v->v.oneCell'=Br->(SV.lf 1 s .nl).is C η H (.agg v.cells):=λ{s} a c=>by have:=K_ (s:=1) a (by grind[A']) (by grind[A']) ah;simp_all
 have gen:∀ {s:SV N.T},s.is C η H v->PM s=Br->(SV.lf 1 s .nl).is C η H (.agg v.cells):=λa b=>one a (MA b a);unfold toL at h;split at h;· cases h;obtain⟨g,c2,u,rfl,e⟩:=a;exact⟨g,c2,u,rfl,e⟩
 ·cases h;rw[show v=_ from a];rfl
 ·obtain⟨i,e⟩:=CZ a;have:=Uq (C:=C) (η:=η) (c2:=[]) i ah;simp_all
 ·cases h;exact one (s:= .na _) a (by rw[a.1];rfl)
 ·cases h;exact one (s:= .na _) ⟨a.1,Agk a.2⟩ (by rw[a.1];rfl)
 ·cases h;exact one (s:= .d .bool _) ⟨[_],rfl,by rw[a.1];rfl⟩ (by rw[a.1];rfl)
 grind
theorem M4{η:Nat->Ce}{H:Hp} :∀ {fu:Nat} {l r:SV N.T} {n:Nat} {cs:List Ce},SO N fu l n=Ac r->l.is C η H (.agg cs.toArray)->r.is C η H (.agg (cs.drop n).toArray)/\n<=cs.length
 |0,_,_,_,_,h,_=>by cases h
 |fu+1,l,r,n,cs,h,d=>by
  unfold SO at h;split at h;· simp_all
  ·split at h
   ·split at h;· rename_i c;have c:=Aay c;obtain⟨j,k,u,rfl,f,_,_,_,g⟩:=FC d;obtain⟨i,m⟩:=M4 h g;grind[List.drop_append,rA]
    grind
   grind
theorem EL{η:Nat->Ce}{H:Hp} :∀ {fu:Nat} {ty:Ty} {l r:SV N.T} {x:ty.den N.T} {cs:List Ce},KL N C fu ty l=Ac (x,r)->l.is C η H (.agg cs.toArray)->∃c c2,cs=c++c2/\(N.c ty).BS H x c/\r.is C η H (.agg c2.toArray)
 |0,_,_,_,_,_,h,_=>by cases h
 |fu+1,ty,l,r,x,cs,h,f=>by
  unfold KL at h;split at h
  ·rename_i p d;cases h;split at d
   ·split at d;· obtain⟨y,E,e⟩:=Pd.1 d;cases e;obtain⟨c,c2,u,rfl,n,A,B,G,D⟩:=FC f;refine⟨c,c2,rfl,?_,D⟩;rw[<-B];exact(CZ (I2 E (EU A))).1
    grind
   grind
  ·cases ty with
   |st t=>exact EL (ty:=t) h f
   |pr a b=>
    simp only at h;split at h
    ·rename_i y F k;split at h;· rename_i z I n;cases h;obtain⟨c,c2,rfl,g,j⟩:=EL k f;obtain⟨m,q,rfl,v,w⟩:=EL n j;exact⟨c++m,q,by simp,⟨c,m,rfl,g,v⟩,w⟩
     grind
    grind
   |nm i=>
    obtain⟨⟨y,F⟩,k,e⟩:=Pd.1 h;cases e;obtain⟨c,c2,rfl,g,j⟩:=EL k f;exact⟨c,c2,rfl,N.lay.2 (by rw[N.LG];omega),j⟩
   |_=>cases h
structure xZ(C:List (SV N.T))(η:Nat->Ce)(H:Hp)(sv:SV N.T)(c:List Ce):Prop where
 ex:∃u,sv.is C η H u/\u.cells.toList=c/\((∃ty x,sv= .d ty x/\c.length=ty.sz N)\/(u.oneCell'=Br/\∀ty x,sv≠ .d ty x))
theorem Dv:∀ {l sv:SV N.T} {off:Nat} {d:Option Ty} {cs:List Ce},E0 N C l off d=Ac sv->l.is C η H (.agg cs.toArray)->∃c,xZ C η H sv c/\(cs.drop off).take c.length=c:=by
 intro l;induction l with
 |lf s a l _ R=>
  intro sv off d cs h F;obtain⟨A,S,u,rfl,M,f,D,W,O⟩:=FC F;unfold E0 at h;split at h
  ·split at h;· rename_i k b;cases h;simp only[AS]at b;have J:=AI b.1;subst J;have f:=EU f;have Q:=MA b.2.2 f;refine⟨A,⟨u,f,D, .inr ⟨Q,λj x e=>?_⟩⟩,by simp⟩;rw[e]at b;cases b.2.2
   ·split at h;· grind
    ·rename_i j;split at h
     ·rename_i y p;cases h;split at p
      ·rename_i t x o;have f:=EU f;rw[o]at f;have E:=(CZ f).1;rw[D]at E;obtain⟨q,G⟩:=Da p E;obtain⟨w,v,z⟩:=E5 (C:=C) (η:=η) q;have g:((A.drop off).take (j.sz N)).length=j.sz N:=by simp;omega
       refine⟨_,⟨w,v,z, .inl ⟨j,y,rf,g⟩⟩,?_⟩;rw[g,Afj (by omega),Acf (by simp;omega)]
      grind
     ·split at h;· rename_i L;have:=AI L;subst this;obtain⟨⟨y,r⟩,P,e⟩:=Pd.1 h;cases e;obtain⟨I,T,K,B,V⟩:=EL P F;obtain⟨w,v,z⟩:=E5 (C:=C) (η:=η) B;refine⟨I,⟨w,v,z, .inl ⟨j,y,rfl,Bh B⟩⟩,?_⟩;rw[K,Afb,List.take_left'];rfl
      ·cases h
  ·rename_i k;have k:s<=off:=by
    rcases Aal off s with n|n;· rw[show aT off s=Br by simpa using n]at k;cases k
    ·exact n
   obtain⟨c,q,G⟩:=R h O;refine⟨c,q,?_⟩;rw[Acv,Aaz (by omega),Aci,M];exact G
 |_=>intro sv off d cs h _;simp[E0]at h
theorem ID{η:Nat->Ce}{H:Hp}{v:Ce}{b:SV N.T}(B:b.is C η H v)(F:∀x∈v.cells.toList,x.oneCell'=Br):∀ {fu:Nat} {l S:SV N.T} {off:Nat} {cs:List Ce},eM N C fu l off v.cells.toList.length b=Ac S->l.is C η H (.agg cs.toArray)->
  S.is C η H (.agg (CF cs off v.cells.toList).toArray)/\off+v.cells.toList.length<=cs.length
 |0,_,_,_,_,h,_=>by cases h
 |fu+1,l,S,off,cs,h,hl=>by
  unfold eM at h;split at h
  ·rename_i s a l;obtain⟨f,q,u,rfl,z,c,n,X,A⟩:=FC hl;split at h
   ·split at h
    ·rename_i k o;simp only[AS]at o;have T:=AI o.1;obtain⟨r,P,rfl⟩:=Pd.1 h;obtain⟨R,k2⟩:=M4 P A;refine⟨?_,by grind⟩;have:=K_ B rfl F R;simp_all[CF,Aeb,Aci,Abm,Acv,Aaz]
    ·split at h;· rename_i t x d;have c:=EU c;rw[d]at c;have g:=(CZ c).1;rw[n]at g;have:=Uq (t:=t) (C:=C) (η:=η) g A;rw[show t.sz N=s from by rw[<-z];exact(Bh g).symm]at this;exact ID B F h this
     ·rename_i t u' x d;have c:=EU c;rw[d]at c;have g:=(CZ c).1;rw[n]at g;obtain⟨d1,d2,e,I,w⟩:=g;have:=Uq (t:=t) (C:=C) (η:=η) I (Uq (t:=u') (C:=C) (η:=η) w A);rw[<-Aak,<-e]at this;exact ID B F h this
     ·rename_i i x d;have c:=EU c;rw[d]at c;have g:=(CZ c).1;rw[n]at g;have U:=N.lay.1 g;have:=Uq (t:=N.body i) (C:=C) (η:=η) U A;rw[show(N.body i).sz N=s from by grind[Bh]]at this;exact ID B F h this
     ·rename_i m t x d;split at h
      ·rename_i y x0 p hy j;cases h;simp only[AS]at p;have T:=AI p.1;have L:=AI p.2.1;have c:=EU c;rw[d]at c;have g:=(CZ c).1;rw[n]at g;obtain⟨I,w⟩:x.length=m/\A2 (N.c t) H x f:=g;have Q:=(CZ (I2 hy B)).1;obtain⟨K,q1,_,q3⟩:=w.get j;have E:=Bh q1;have Y:=Ago off (t.sz N);have M:f.length=x.length*t.sz N:=by rw[w.len,Bp]
       have Z:=(No.1 j).1;have hm:t.sz N*(off/t.sz N)+t.sz N<=f.length:=by rw[M,Ada,<-Adx];exact Abi _ Z
       have V:=w.part (off:=0) (y:=y) (vs:=v.cells.toList) j q3 (by rw[Bp];exact E) (by rw[Bp,L];omega) (by
        have:CF K 0 v.cells.toList=v.cells.toList:=by unfold CF;rw[Aeb,Aci,Abm,Aaz (by omega),Adf]
        rw[this];exact Q);rw[Bp,Nat.add_zero,show off/t.sz N*t.sz N=off by rw[Ada];omega]at V;have D:(N.c (.ar m t)).BS H (show(Ty.ar m t).den N.T from(show List (t.den N.T)from x).set (off/t.sz N) y) (CF f off v.cells.toList):=⟨by rw[Abp];exact I,V⟩;have:=Uq (t:= .ar m t) (C:=C) (η:=η) D A;rw[show(Ty.ar m t).sz N=s from by rw[<-z];exact(Bh (t:= .ar m t) (show(N.c (.ar m t)).BS H x f from⟨I,w⟩)).symm]at this;refine⟨?_,by rw[Aab];omega⟩;have e:CF (f++q) off v.cells.toList=CF f off v.cells.toList++q:=by
        unfold CF;rw[Acf (by omega),Afj (by omega)];simp
       rw[e];exact this
      trivial
     grind
   ·rename_i k;have k:s<=off:=by
     rcases Aal off s with O|O;· rw[show aT off s=Br by simpa using O]at k;cases k
     ·exact O
    obtain⟨r,P,rfl⟩:=Pd.1 h;obtain⟨R,k2⟩:=ID B F P A;refine⟨?_,by simp at*;omega⟩;have:=K_ (s:=s) c (by rw[n];exact z) (by rw[n];exact X) R;rw[n]at this;have e:CF (f++q) off v.cells.toList=f++CF q (off-s) v.cells.toList:=by unfold CF;rw[Adt,Abl (by omega),Acv,Aaz (by omega:f.length<=off+v.cells.toList.length),z];simp;omega
    rw[e];exact this
  grind
end
end
section
variable (N : Df) {R : Type}
def UA:List (Option Ty)->Option (Option Ty)
 | []=>Ac Dc
 |none::_=>Dc
 |some t::l=>match UA l with
  |some Dc=>Ac (Ac t)
  |some (Ac u)=>Ac (Ac (.pr t u))
  |none=>Dc
def ff(
     P:GO):Nat->Gn->Option Ty
 |0,_=>Dc
 |a+1,t=>match N.id t with
  |some i=>Ac (.nm i)
  |none=>match P.underlying t with
   |some .bool=>Ac .bool
   |some (.int k)=>Ac (.int k)
   |some .string=>Ac .str
   |some (.slice e)=>(ff P a e).map .sl
   |some (.array n e)=>match P.underlying e,Hg n 4 with
    |some (.int .u64),Br=>Ac .bs
    |_,_=>(ff P a e).map λt=>match iJ n 4 with
     |true=> .st (match UA (T9 n (Ac t))with|some (Ac u)=>u|_=> .un)
     |false=> .ar n t
   |some (.struct b)=>(UA (b.toList.map λf=>ff P a f.type)).map λr=> .st (r.getD .un)
   |_=>Dc
def rB:Bool->Bool->Bool
 |true,Br|false,Ak=>Br
 |_,_=>Ak
theorem Wj:∀ {a b:Bool},rB a b=Br->a=b:=by decide
def L6(P:GO)(t:Gn):Option Ty:=match ff N P 12 t,P.underlying t with
 |some a,Ac d=>match rB (DP d) a.agg&&Ps P t (a.sz N)with
  |true=>Ac a
  |false=>Dc
 |_,_=>Dc
variable {N}
section
variable{k:Lm}{n:Int}{C:List (SV N.T)}{η:Nat->Ce}{H:Hp}
theorem Ka{P:GO}{t:Gn}{ty:Ty}(h:L6 N P t=Ac ty):∃d,P.underlying t=Ac d/\DP d=ty.agg/\∃bytes z,TI P t (ty.sz N) bytes z:=by
 unfold L6 at h;split at h
 ·split at h;· rename_i a;grind[Wj,Dt]
  grind
 grind
def intOf:SV N.T->Option (Lm×Int)
 | .d (.int k) x=>Ac (k,x)
 | .na n| .ct _ n| .cb _ n=>Ac (.i64,(n:Int))
 | .raw (.int k n)=>Ac (k,n)
 |_=>Dc
theorem AU{s:SV N.T}{v:Ce}(h:intOf s=Ac (k,n))(a:s.is C η H v):v= .int k n:=by
 unfold intOf at h;split at h;· obtain⟨d,b,c⟩:=a;have b:=(D6.1 b).1;subst b;have c:[_]=[v]:=c;grind
 ·cases h;exact a.1
 ·cases h;exact a.1
 ·cases h;exact a.1
 ·cases h;exact a
 grind
def Aa(k:Lm)(n:Int)(x:Option R):Option R:=match k with
 | .i64=>Ah (DY n) x
 | .u8=>Ah (F8 n) x
 |k=>Ah (k.min<=n/\n<=k.max) x
theorem B_{x:Option R}{r:R}(h:Aa k n x=Ac r):(k.min<=n/\n<=k.max)/\UE k n/\x=Ac r:=by
 unfold Aa at h;split at h;· obtain⟨a,b⟩:=AG h;trivial
 ·obtain⟨a,b⟩:=AG h;trivial
 ·obtain⟨a,b⟩:=AG h;refine⟨a,?_,b⟩;cases k<;>first|exact a|grind|exact absurd rfl d
theorem D8(h:UE k n):(SV.d (.int k) n:SV N.T).is C η H (.int k n):=⟨[_],D6.2 ⟨rfl,h⟩,rfl⟩
def PL(wr:List (Nat×SR N.T))(Rr:Nat->Option (SR N.T))(k:Nat):Option (SR N.T):=match Ax wr k with
 |some x=>Ac x
 |none=>Rr k
def D'(τ:Nat->Nat)(Rr:Nat->Option (SR N.T)):SV N.T->Prop
 | .ct i n=>τ i=n
 | .cb i n=>τ i=n
 | .lt i n _=>τ i=n
 | .Ee k i _ t x=> ∀g a l,Rr k=Ac (.row g a l)->∃h:a.JM t=Br,(idx l i).map (Td h)=Ac x
 |_=>True
def Nr(Rr:Nat->Option (SR N.T))(S:Nat->SV N.T)(τ:Nat->Nat):Prop:= ∀t,D' τ Rr (S t)
structure A1(P:GO)(C:List (SV N.T))(S:Nat->SV N.T)(Rr:Nat->Option (SR N.T))(nk:Nat)(o:K5)(k:Bt N.T->Nat->Option R)(r:R):Prop where
 ex:∃s nk',k s nk'=Ac r/\Ao P C S Rr o s/\nk<=nk'/\(∀j∈keys s.wr,Rr j=Dc->nk<=j/\j<nk')/\∀τ,Nr Rr S τ->D' τ (PL s.wr Rr) s.sv
end
section
variable {P : GO} {C : List (SV N.T)} {S : Nat -> SV N.T} {Rr : Nat -> Option (SR N.T)} {nk : Nat} {o : K5} {k : Bt N.T -> Nat -> Option R} {r : R}
section
variable{cs:List Ce}{τ:Nat->Nat}{t:Ty}{v:Ce}
theorem A1.y{sv:SV N.T}{a:List Nat}(h:k ⟨sv,a,[]⟩ nk=Ac r)(c:Ao P C S Rr o ⟨sv,a,[]⟩)(d:∀τ,Nr Rr S τ->D' τ Rr sv):A1 P C S Rr nk o k r:=
 ⟨_,nk,h,c,Aaf _,λj b=>(by cases b),d⟩
theorem A1.new{sv:SV N.T}{b:List Nat}{c:SR N.T}(h:k ⟨sv,b,[(nk,c)]⟩ (nk+1)=Ac r)(d:Ao P C S Rr o ⟨sv,b,[(nk,c)]⟩)(e:∀τ Rr,D' τ Rr sv):A1 P C S Rr nk o k r:=
 ⟨_,nk+1,h,d,Agu _,λj a _=>(by grind[keys]),λτ _=>e τ _⟩
theorem A1.set{sv:SV N.T}{d:List Nat}{b:Nat}{i e:SR N.T}(h:k ⟨sv,d,[(b,e)]⟩ nk=Ac r)(h0:Rr b=Ac i)(f:Ao P C S Rr o ⟨sv,d,[(b,e)]⟩)(g:∀τ Rr,D' τ Rr sv):A1 P C S Rr nk o k r:=
 ⟨_,nk,h,f,Aaf _,λj a c=>(by grind[keys]),λτ _=>g τ _⟩
theorem L3{x:Er}(h:Nr Rr S τ):D' τ Rr (Av S x):=by
 cases x with
 |tmp t=>exact h t
 |const v=>simp only[Av,ofConst];split<;>trivial
 |_=>trivial
theorem o0{s:SV N.T}(h:PM s=Br):D' τ Rr s:=by cases s<;>first|trivial|cases h
theorem VL{x:Er}(b:o.op= .move x\/o.op= .assign x)(h:k ⟨Av S x,[],[]⟩ nk=Ac r):A1 P C S Rr nk o k r:=by
 refine .y h (Abu λη H O a c _=>⟨a.eval x,?_,?_⟩) λτ h=>L3 h
 ·rcases b with b|b<;>rw[b];· exact Aq.move rfl
  ·exact Aq.assign rf
 grind[Z8]
theorem Z0{c x y:Er}(b:o.op= .pick c x y)(hc:Av S c= .lb Br)(h:k ⟨Av S x,[],[]⟩ nk=Ac r):A1 P C S Rr nk o k r:=by refine .y h (Abu λη H O a d _=>⟨a.eval x,?_,d x (by grind[Z8])⟩) λτ h=>L3 h;have:=d c (by grind[Z8]);rw[hc]at this;rw[b];exact Akb (congrArg Ac this) rf
theorem Z1{c x y:Er}(b:o.op= .pick c x y)(hc:Av S c= .lb Ak)(h:k ⟨Av S y,[],[]⟩ nk=Ac r):A1 P C S Rr nk o k r:=by refine .y h (Abu λη H O a d _=>⟨a.eval y,?_,d y (by grind[Z8])⟩) λτ h=>L3 h;have:=d c (by grind[Z8]);rw[hc]at this;rw[b];exact Aka (congrArg Ac this) rf
def ldB(P:GO)(t:Gn)(sv:SV N.T):Bool:=match P.underlying t with
 |some d=>match sv with
  | .d a _=>rB (DP d) a.agg&&Ps P t (a.sz N)
  |_=> !DP d
 |none=>Ak
def wO(P:GO)(C:List (SV N.T))(S:Nat->SV N.T)(Rr:Nat->Option (SR N.T))(nk:Nat)(t:Gn)(x:Er)(k:Bt N.T->Nat->Option R):Option R:=match Av S x with
 | .loc b off=>match Rr b with
  |some (.Af _ l)=>match E0 N C l off (L6 N P t)with
   |some sv=>match ldB P t sv with
    |true=>k ⟨sv,[b],[]⟩ nk
    |false=>Dc
   |none=>Dc
  |_=>Dc
 | .pd c y off=>match L6 N P t with
  |some a=>match Fh N 16 c y off a,aT 0 (a.sz N)with
   |some z,Br=>k ⟨.d a z,[],[]⟩ nk
   |_,_=>Dc
  |none=>Dc
 | .Ee b _ off e y=>match Rr b,L6 N P t with
  |some (.row _ _ _),Ac a=>match Fh N 16 e y off a,aT 0 (a.sz N)with
   |some z,Br=>k ⟨.d a z,[b],[]⟩ nk
   |_,_=>Dc
  |_,_=>Dc
 |_=>Dc
theorem Ki(h:CU t cs v)(a:t.agg=Br):v= .agg cs.toArray:=by grind[CU]
theorem Kh(h:CU t cs v)(a:t.agg=Ak):cs=[v]:=by grind[CU]
theorem drop_one{off:Nat}{u:Ce}(h:(cs.drop off).take 1=[u]):cs[off]?=Ac u:=by
 have:((cs.drop off).take 1)[0]?=Ac u:=by grind
 grind
theorem nh{t:Gn}{x:Er}(ho:o.op= .load t x)(hW:∃τ,Nr Rr S τ)(h:wO P C S Rr nk t x k=Ac r):A1 P C S Rr nk o k r:=by
 have U:∀ {η:Nat->Ce} {H:Hp} {a:Act},(∀x∈o.op.operands,(Av S x).is C η H (a.eval x))->(Av S x).is C η H (a.eval x):=λV=>V x (by grind[Z8]);unfold wO at h;split at h
 ·rename_i b off hs;
           split at h
  ·rename_i g l T;split at h
   ·rename_i sv Z;
           split at h
    ·rename_i Q;refine .y h (Abu λη H O a V hr=>?_) λτ _=>?_
     ·obtain⟨B,M,e2⟩:(SV.loc b off:SV N.T).is C η H (a.eval x):=by grind
      rcases hr b (by simp) _ T with e|⟨X,i,L,B',cs,Y,e4,h2⟩;· grind
      rw[M]at Y;have Y:B=B':=by grind[ptr]
      subst Y;subst e4;obtain⟨c,⟨u,k1,k2,k3⟩,k4⟩:=Dv (cs:=cs.toList) Z h2;unfold ldB at Q;split at Q
      ·rename_i d I;rcases k3 with⟨n,y,rfl,f⟩|⟨ho1,hnd⟩;· simp only[AS]at Q;have w:=Wj Q.1;obtain⟨bytes,z,F⟩:=Dt Q.2;obtain⟨D,q1,K⟩:=k1;refine⟨u,?_,⟨D,q1,K⟩⟩;rw[ho];cases A:n.agg with
        |true=>
         have:=Ki K A;subst this;have hc:D=c:=by trivial
         subst hc;exact Ajc I (by grind) (by rw[f];exact F) (congrArg Ac e2) L k4
        |false=>
         have:=Kh K A;subst this;have hc:c=[u]:=by rw[<-k2];exact A' ((N.c n).one q1 u (by simp))
         subst hc;exact Agg I (by rw[w,A]) (congrArg Ac e2) L (by simpa using drop_one k4)
       ·have hB':DP d=Ak:=by
         cases sv with
         |d n y=>exact absurd rfl (hnd n y)
         |_=>simpa using Q
        refine⟨u,?_,k1⟩;have hc:c=[u]:=by rw[<-k2];exact A' ho1
        subst hc;rw[ho];exact Agg I hB' (congrArg Ac e2) L (by simpa using drop_one k4)
      grind
     ·have:∀ {l sv:SV N.T} {off:Nat} {G:Option Ty},E0 N C l off G=Ac sv->D' τ Rr sv:=by
       intro l;induction l with
       |lf s a l _ ih=>
        intro sv off G h;unfold E0 at h;split at h
        ·split at h;· rename_i T;cases h;simp only[AS]at T;exact o0 T.2.2
         ·split at h;· cases h
          ·split at h;· cases h;trivial
           ·split at h;· obtain⟨p,_,rfl⟩:=Pd.1 h;trivial
            ·cases h
        ·exact ih h
       |_=>intro sv off G h;simp[E0]at h
      exact this Z
    grind
   grind
  grind
 ·rename_i t' y off hs;split at h
  ·rename_i n ht;split at h
   ·rename_i z hz h0;refine .y h (Abu λη H O a V hr=>?_) λτ _=>trivial;obtain⟨ad,q,cs,M,L,h2⟩:(SV.pd t' y off:SV N.T).is C η H (a.eval x):=by rw[<-hs];exact U V
    obtain⟨d,I,w,bytes,zv,F⟩:=Ka ht;obtain⟨k1,k2⟩:=Da hz L;obtain⟨u,w1,W⟩:=E5 (η:=η) k1;have f:((cs.drop off).take (n.sz N)).length=n.sz N:=by simp;omega
    have hc:∀j u,((cs.drop off).take (n.sz N))[j]?=Ac u->DX H (.pointer (Ac (ad.add (q+off+j)))) u:=λj u E=>by
     rw[Ahu]at E;split at E;· rw[Aft]at E;rw[Ads];exact h2 _ u E
     ·cases E
    refine⟨u,?_,w1⟩;rw[ho];obtain⟨D,q1,K⟩:=w1;cases A:n.agg with
    |true=>
     have:=Ki K A;subst this;have e:D=(cs.drop off).take (n.sz N):=by simpa [Ce.cells]using W
     subst e;refine Ail (v:= .slice (Ac ad) 0 0) (k:=q+off) I (by rw[w,A]) (by rw[f];exact F) ?_ (congrArg Ac M) hc;cases Z:(cs.drop off).take (n.sz N)with
     |nil=>rw[Z]at f;simp at f h0;omega
     |cons a l=>rfl
    |false=>
     have:=Kh K A;subst this;rw[A' ((N.c n).one q1 u (by simp))]at W;exact Ajf I (by rw[w,A]) (congrArg Ac M) (by have:=hc 0 u (by rw[<-W];rfl);simpa using this)
   ·cases h
  ·cases h
 ·rename_i b i off te y hs;split at h
  ·rename_i g te' l n T ht;split at h
   ·rename_i z hz h0;refine .y h (Abu λη H O a V hr=>?_) λτ _=>trivial;obtain⟨M,ad,n',c',e2⟩:(SV.Ee b i off te y:SV N.T).is C η H (a.eval x):=by rw[<-hs];exact U V
    obtain⟨τ,hτ⟩:=hW;have hw:D' τ Rr (Av S x):=L3 hτ;rw[hs]at hw;obtain⟨he,hi⟩:=hw g te' l T;obtain⟨y',hy',rfl⟩:=Pd.1 hi;have ee:=Adj he;subst ee;rcases hr b (by simp) _ T with e|⟨X,j,L,xs,Y,hL⟩;· cases e
    subst Y;obtain⟨d,I,w,bytes,zv,F⟩:=Ka ht;obtain⟨cs,g1,g2,_⟩:=hL.get (Dm hy').2;obtain⟨k1,k2⟩:=Da hz g1;obtain⟨u,w1,W⟩:=E5 (η:=η) k1;have f:((cs.drop off).take (n.sz N)).length=n.sz N:=by simp;omega
    have hc:∀j u,((cs.drop off).take (n.sz N))[j]?=Ac u->xs[i.toNat*te'.sz N+off+j]?=Ac u:=λj u E=>by
     rw[Ahu]at E;split at E;· rw[Aft]at E;have:=g2 _ u E;rw[Bp]at this;rw[Ads];exact this
     ·cases E
    refine⟨u,?_,w1⟩;rw[ho];obtain⟨D,q1,K⟩:=w1;cases A:n.agg with
    |true=>
     have:=Ki K A;subst this;have e:D=(cs.drop off).take (n.sz N):=by simpa [Ce.cells]using W
     subst e;refine Akq I (by rw[w,A]) (by rw[f];exact F) ?_ (congrArg Ac M) L hc;intro Z;rw[Z]at f;simp at f h0;omega
    |false=>
     have:=Kh K A;subst this;rw[A' ((N.c n).one q1 u (by simp))]at W;exact Ahn I (by rw[w,A]) (congrArg Ac M) L (by have:=hc 0 u (by rw[<-W];rfl);simpa using this)
   ·cases h
  ·cases h
 grind
end
end
end
section
variable {N : Df} {R : Type} {P : GO} {C : List (SV N.T)} {S : Nat -> SV N.T} {Rr : Nat -> Option (SR N.T)} {nk : Nat} {o : K5} {k : Bt N.T -> Nat -> Option R} {r : R}
section
variable{t T:Gn}{E:Er->Option Ce}{H:Hp}{O:List Aw}
theorem Ajp{size bytes:Nat}{z:Ce}(g:TI P t size bytes z):
  BP P (.alloc t) T E H O (λv c d=> ∃B,v=ptr B 0/\c=H/\d= .Af B (.cells z.cells t (0,0))::O):= .Ap λa w o e _ h f=>by
 refine⟨_,_,H,_,?_,Hp.le.refl H,⟨w.heap.size,rf,rf,rf⟩,f.alloc _⟩;simp[Kr,e,Instr.alloc,g.zeroValue,newVar,newRow,ptr]
theorem Aib{x:Er}{v:Ce}(h:E x=Ac v):
  BP P (.box t x) T E H O (λu c d=> ∃B,u=ptr B 0/\c=H/\d= .Af B (.cells v.cells t (0,0))::O):= .Ap λa w o f _ e g=>by
 refine⟨_,_,H,_,?_,Hp.le.refl H,⟨w.heap.size,rf,rf,rf⟩,g.alloc _⟩;simp_all[Kr,Instr.box,newVar,newRow,ptr]
def TM(C:List (SV N.T))(t:Ty)(s:SV N.T):Option (t.den N.T):=match s with
 | .lf z a l=>match t.agg,KL N C 64 t (.lf z a l)with
  |true,Ac (x, .nl)=>Ac x
  |_,_=>Dc
 |s=>eQ N t s
theorem DO{t:Ty}{s:SV N.T}{x:t.den N.T}{η:Nat->Ce}{H:Hp}{v:Ce}(h:TM C t s=Ac x)(b:s.is C η H v):(SV.d t x).is C η H v:=by
 unfold TM at h;split at h
 ·split at h
  ·rename_i l m;cases h;have i:=b;obtain⟨d,f,u,rfl,_⟩:=i;obtain⟨g,c,e,j,a⟩:=EL (η:=η) (H:=H) (cs:=d++f) m b;have a:Ce.agg c.toArray= .agg #[]:=a;have a:c=[]:=by grind
   subst a;refine⟨g,j,?_⟩;grind[CU]
  grind
 grind[I2]
end
variable (N) in
def eV(P:GO):Nat->List Gn->List Ce->Option (SV N.T)
 |0,_,_=>Dc
 |_+1,[],c=>match c with
  | []=>Ac .nl
  |_=>Dc
 |e+1,t::f,c=>match a (L6 N P t)with
  |some b=>match parse N 16 b c with
   |some (x,r)=>(eV P e f r).map (.lf (b.sz N) (.d b x))
   |none=>Dc
  |none=>match P.underlying t with
   |some (.struct g)=>eV P e (g.toList.map (·.type)++f) c
   |some (.array _ _)=>match L6 N P t with
    |some b=>match parse N 16 b c with
     |some (x,r)=>(eV P e f r).map (.lf (b.sz N) (.d b x))
     |none=>Dc
    |none=>Dc
   |_=>match c with
    |v::r=>match v.oneCell' with
     |true=>(eV P e f r).map (.lf 1 (.raw v))
     |false=>Dc
    | []=>Dc
 where
 a:Option Ty->Option Ty
  |some t=>match Hz t with
   |true=>Ac t
   |false=>Dc
  |none=>Dc
section
variable{η:Nat->Ce}{H:Hp}{t:Gn}{v:Ce}{s:SV N.T}{x:Er}{n:Nat}
theorem J8{η:Nat->Ce}{H:Hp} :∀ {fu:Nat} {ts:List Gn} {cs:List Ce} {l:SV N.T},eV N P fu ts cs=Ac l->l.is C η H (.agg cs.toArray)
 |0,_,_,_,h=>by cases h
 |_+1,[],cs,l,h=>by
  cases cs with
  |nil=>cases h;rfl
  |cons v r=>cases h
 |fu+1,t::ts,cs,l,h=>by
  have b:∀(e:Ty),(match parse N 16 e cs with
   |some (x,r)=>(eV N P fu ts r).map (.lf (e.sz N) (.d e x))
   |none=>Dc)=Ac l->l.is C η H (.agg cs.toArray):=λe h=>by
   split at h;· rename_i x r j;obtain⟨m,f,rfl⟩:=Pd.1 h;obtain⟨p,rfl,i⟩:=CL (H:=H) j;exact Uq i (J8 f)
   grind
  unfold eV at h;split at h;· exact b _ h
  ·split at h;· exact J8 h
   ·split at h;· exact b _ h
    grind
   ·split at h
    ·rename_i v r;split at h;· rename_i c;obtain⟨m,f,rfl⟩:=Pd.1 h;have:=K_ (N:=N) (s:=1) (a:= .raw v) (η:=η) (H:=H) rfl (by rw[A' c];rfl) (by rw[A' c];intro x g;simp at g;subst g;exact c) (J8 f);grind[A']
     grind
    grind
def UT(P:GO)(nk:Nat)(t:Gn)(k:Bt N.T->Nat->Option R):Option R:=match P.info? t with
 |some a=>match a.zero with
  |some z=>match eV N P 64 [t] z.cells.toList with
   |some l=>k ⟨.loc nk 0,[],[(nk, .Af t l)]⟩ (nk+1)
   |none=>Dc
  |none=>Dc
 |none=>Dc
theorem Z5(g:o.op= .alloc t)(d:∀j,nk<=j->Rr j=Dc)(h:UT P nk t k=Ac r):A1 P C S Rr nk o k r:=by
 unfold UT at h;split at h
 ·rename_i b e;split at h
  ·rename_i z i;split at h;· rename_i l f;refine .new h (Afe (d nk (Aaf _)) λη H O a n _=>?_) λ_ _=>trivial;rw[g];refine(Ajp (size:=b.size) (bytes:=b.bytes) ⟨b,e,rfl,rfl,i⟩).mono ?_;rintro v c m ⟨B,rfl,rfl,rfl⟩;refine⟨rfl,_,ptr B 0,rfl,⟨B,z.cells,AD _ _ _,rfl,by have:=J8 (C:=C) (η:=Ez η nk (ptr B 0)) (H:=c) f;omega⟩,⟨B,AD _ _ _,rfl⟩⟩
   grind
  grind
 grind
def wC(P:GO)(t:Gn)(s:SV N.T):SV N.T:=match PM s with
 |true=>s
 |false=>match L6 N P t with
  |some a=>match eQ N a s with
   |some y=> .d a y
   |none=>s
  |none=>s
theorem Ui(h:s.is C η H v):(wC P t s).is C η H v:=by grind[wC,I2]
theorem bT{b:Ce}(d:∀k∈C3 C,k<nk)(c:Cf s.AL nk=Ak)(h:s.is C η H v):s.is C (Ez η nk b) H v:=
 h.env (λk a=>EH (by grind)) λk a=>EH λe=>by grind[AR]
def sj(P:GO)(S:Nat->SV N.T)(nk:Nat)(t:Gn)(x:Er)(k:Bt N.T->Nat->Option R):Option R:=match toL N (wC P t (Av S x))with
 |some l=>match Cf l.AL nk with
  |false=>k ⟨.loc nk 0,[],[(nk, .Af t l)]⟩ (nk+1)
  |true=>Dc
 |none=>Dc
theorem pO(b:o.op= .box t x)(c:∀k∈C3 C,k<nk)(d:∀j,nk<=j->Rr j=Dc)(h:sj P S nk t x k=Ac r):A1 P C S Rr nk o k r:=by
 unfold sj at h;split at h
 ·rename_i l e;split at h;· rename_i f;refine .new h (Afe (d nk (Aaf _)) λη H O a i _=>?_) λ_ _=>trivial;have g:=i x (by grind[Z8]);rw[b];refine(Aib (v:=a.eval x) rfl).mono ?_;rintro v m n ⟨B,rfl,rfl,rfl⟩;exact⟨rfl,_,ptr B 0,rfl,⟨B,_,AD _ _ _,rfl,bT c f (oB e (Ui g))⟩,⟨B,AD _ _ _,rfl⟩⟩
  grind
 grind
def aL:SV N.T->Option (SV N.T×Nat)
 | .d t x=>Ac (.d t x,t.sz N)
 | .ct _ n| .cb _ n=>Ac (.na n,1)
 | .lt _ n m=>Ac (.d .bool (Ds ((n:Int)<(m:Int))),1)
 |s=>match PM s with
  |true=>Ac (s,1)
  |false=>Dc
theorem aK{d:SV N.T}(h:aL s=Ac (d,n))(a:s.is C η H v):d.is C η H v/\v.cells.toList.length=n/\∀x∈v.cells.toList,x.oneCell'=Br:=by
 have one:v.oneCell'=Br->v.cells.toList.length=1/\∀x∈v.cells.toList,x.oneCell'=Br:=λb=>by grind[A']
 unfold aL at h;split at h;· obtain⟨e,f⟩:=CZ a;grind[Bh]
 ·cases h;exact⟨a,one (by rw[a.1];rfl)⟩
 ·cases h;exact⟨⟨a.1,Agk a.2⟩,one (by rw[a.1];rfl)⟩
 ·cases h;exact⟨⟨[_],rfl,by rw[a.1];rfl⟩,one (by rw[a.1];rfl)⟩
 grind[MA]
theorem fA(cs:List Ce)(off:Nat)(a c2:List Ce)(h:off+(a.length+c2.length)<=cs.length):CF (CF cs off a) (off+a.length) c2=CF cs off (a++c2):=by
 have e:(cs.take off++a).length=off+a.length:=by grind
 unfold CF;rw[Acf (by omega),Abl (by omega),Acv,Aaz (by omega),Aci,Ade,e];grind
def fw(C:List (SV N.T)):SV N.T->SV N.T->Nat->Option (SV N.T×Nat)
 | .lf s a r,l,off=>match eM N C 64 l off s a with
  |some b=>(fw C r b (off+s)).map λp=>(p.1,s+p.2)
  |none=>Dc
 | .nl,l,_=>Ac (l,0)
 |_,_,_=>Dc
theorem fv:∀ {b l g:SV N.T} {off n:Nat} {cs vs:List Ce},fw C b l off=Ac (g,n)->off<=cs.length->b.is C η H (.agg vs.toArray)->l.is C η H (.agg cs.toArray)->
  g.is C η H (.agg (CF cs off vs).toArray)/\off+n<=cs.length/\vs.length=n/\∀x∈vs,x.oneCell'=Br:=by
 intro b;induction b with
 |lf s a r _ I=>
  intro l g off n cs vs h z d q;unfold fw at h;split at h
  ·rename_i O y;obtain⟨⟨Q,m⟩,G,e⟩:=Pd.1 h;cases e;obtain⟨t,D,u,rfl,v,E,p,w,F⟩:=FC d;rw[<-v,<-p]at y;obtain⟨B,L⟩:=ID E (by simp_all) y q;rw[p]at B L;have c:(CF cs off t).length=cs.length:=by unfold CF;simp;omega
   obtain⟨A,J,M,K⟩:=I (cs:=CF cs off t) (vs:=D) G (by omega) F B;rw[<-v,fA _ _ _ _ (by omega)]at A;refine⟨A,by omega,by simp;omega,λx f=>?_⟩;rcases AT.1 f with f|f;· exact w x f
   simp_all
  trivial
 |nl=>
  intro l g off n cs vs h z d q;cases h;have d:Ce.agg vs.toArray= .agg #[]:=d;have d:vs=[]:=by simpa using d
  subst d;refine⟨?_,by simpa using z,rfl,λx f=>(by cases f)⟩;unfold CF;simpa using q
 |_=>intro l g off n cs vs h;cases h
def fP(C:List (SV N.T))(l:SV N.T)(off:Nat)(b:SV N.T):Option (SV N.T×Nat):=match b with
 | .lf s a r=>fw C (.lf s a r) l off
 |b=>match aL b with
  |some (s,n)=>(eM N C 64 l off n s).map λl=>(l,n)
  |none=>Dc
theorem VE{b l g:SV N.T}{off:Nat}{cs:List Ce}(h:fP C l off b=Ac (g,n))(t:off<=cs.length)(c:b.is C η H v)(d:l.is C η H (.agg cs.toArray)):
  g.is C η H (.agg (CF cs off v.cells.toList).toArray)/\off+n<=cs.length/\v.cells.toList.length=n/\∀x∈v.cells.toList,x.oneCell'=Br:=by
 unfold fP at h;split at h;· have p:=c;obtain⟨i,j,u,rfl,_⟩:=p;have:=fv (vs:=i++j) h t c d;trivial
 ·split at h;· rename_i s m w;obtain⟨D,q,e⟩:=Pd.1 h;obtain⟨y,z,f⟩:=aK w c;grind[ID]
  grind
def R8:SV N.T->Nat
 | .lf s _ l=>s+R8 l
 |_=>0
theorem R4:∀ {l:SV N.T} {cs:List Ce},l.is C η H (.agg cs.toArray)->R8 l<=cs.length:=by
 intro l;induction l with
 |lf s a r _ c=>
  intro cs h;obtain⟨d,e,u,rfl,f,_,_,_,b⟩:=FC h;grind[R8]
 |_=>intro cs h;exact Abg _
def stK(P:GO)(C:List (SV N.T))(S:Nat->SV N.T)(Rr:Nat->Option (SR N.T))(nk:Nat)(t:Gn)(x y:Er)(k:Bt N.T->Nat->Option R):Option R:=match Av S x with
 | .loc b off=>match Rr b with
  |some (.Af g l)=>match iJ off (R8 l),fP C l off (wC P t (Av S y))with
   |true,Ac (e,n)=>match Ps P t n with
    |true=>k ⟨.no,[],[(b, .Af g e)]⟩ nk
    |false=>Dc
   |_,_=>Dc
  |_=>Dc
 | .Ee b i off d z=>match Rr b,L6 N P t with
  |some (.row g a l),Ac c=>match TM C c (Av S y)with
   |some u=>match setAt N 16 d z off c u,Qr N.T d a,aT 0 (c.sz N)with
    |some h,Ac f,Br=>k ⟨.no,[],[(b, .row g a (l.set i.toNat (f h)))]⟩ nk
    |_,_,_=>Dc
   |none=>Dc
  |_,_=>Dc
 |_=>Dc
theorem ng{y:Er}(J:o.op= .store t x y)(hW:∃τ,Nr Rr S τ)(h:stK P C S Rr nk t x y k=Ac r):A1 P C S Rr nk o k r:=by
 have E:∀ {η:Nat->Ce} {H:Hp} {a:Act},(∀x∈o.op.operands,(Av S x).is C η H (a.eval x))->(Av S x).is C η H (a.eval x):=λe=>e x (by grind[Z8]);have F:∀ {η:Nat->Ce} {H:Hp} {a:Act},(∀x∈o.op.operands,(Av S x).is C η H (a.eval x))->(Av S y).is C η H (a.eval y):=λe=>e y (by grind[Z8]);unfold stK at h;split at h
 ·rename_i b off K;split at h
  ·rename_i g l w;split at h
   ·rename_i l' n U G;split at h
    ·rename_i V;obtain⟨bytes,zv,p⟩:=Dt V;refine .set h w (Afv w (by simp) λη H O a X i e L s _=>?_) λ_ _=>trivial;obtain⟨B,I,e2⟩:(SV.loc b off:SV N.T).is C η H (a.eval x):=by grind
     obtain⟨B',cs,q,e4,s⟩:=s;rw[I]at q;have q:B=B':=by simpa [ptr]using q
     subst q;subst e4;have A:=Aam (Aay U) (R4 (cs:=cs.toList) s);obtain⟨Z,q2,q3,q4⟩:=VE (cs:=cs.toList) G A (Ui (F e)) s;subst q3;rw[J];refine⟨_,⟨B,_,I,rfl,Z⟩,(BP.Ro (congrArg Ac e2) rfl rfl p rfl q4 L (by simpa using q2)).mono ?_⟩;rintro v H' O' ⟨rfl,rfl⟩;trivial
    grind
   grind
  grind
 ·rename_i b i off te z K;split at h
  ·rename_i g c l ty w ht;split at h
   ·rename_i u hu;split at h
    ·rename_i z' f hz hf h0;obtain⟨τ,Y⟩:=hW;have hw:D' τ Rr (Av S x):=L3 Y;rw[K]at hw;obtain⟨he,hi⟩:=hw g c l w;obtain⟨y',W,rfl⟩:=Pd.1 hi;have ee:=Adj he;subst ee;obtain⟨he2,rfl⟩:=BB hf;obtain⟨d,hd,hag,bytes,zv,p⟩:=Ka ht;refine .set h w (Afv w (by simp) λη H O a X j e L s _=>?_) λ_ _=>trivial;obtain⟨I,ad,n',c',e2⟩:(SV.Ee b i off c _:SV N.T).is C η H (a.eval x):=by rw[<-K];exact E e
     obtain⟨xs,q,M⟩:=s;subst q;obtain⟨k1,k2⟩:=CZ (DO hu (F e));have D:=Bh k1;obtain⟨⟨hi0,NA⟩,m⟩:=Dm W;obtain⟨cs,g1,g2,g3⟩:=M.get m;obtain⟨Z,q2⟩:=EO hz g1 k1;have T:=Bh g1;rw[Bp]at g3;have Q:=M.len;rw[Bp]at Q;have hb2:i.toNat*c.sz N+c.sz N<=l.length*c.sz N:=by rw[<-Adx];exact Abi _ (by omega)
     rw[J];have hp:=M.part (off:=off) m (by rw[Bp];exact g3) (by rw[Bp];exact T) (by rw[Bp];omega) Z;rw[Bp]at hp;refine⟨.row (η b) g (c.sz N) l.length (CF xs (i.toNat*c.sz N+off) (a.eval y).cells.toList),⟨_,by rw[Abp],hp⟩,(Ahg (congrArg Ac I) rfl rfl p D (by simpa using h0) k2 L (by omega)).mono ?_⟩;rintro v H' O' ⟨rfl,rfl⟩;exact⟨rfl,rfl,trivial⟩
    ·cases h
   ·cases h
  ·cases h
 grind
end
end
section
variable {N : Df} {R : Type} {P : GO} {C : List (SV N.T)} {S : Nat -> SV N.T} {Rr : Nat -> Option (SR N.T)} {nk : Nat} {o : K5} {k : Bt N.T -> Nat -> Option R} {r : R}
section
variable{H:Hp}{x:Er}{t:Gn}{η:Nat->Ce}{i:Nat}{y:Er}{v:Ce}{b:Bool}
theorem Aiy{T:Gn}{E:Er->Option Ce}{O:List Aw}{s off d:Nat}{c:Addr}(f:jx P s i off d)(h:E x=Ac (.pointer (Ac c))):Aq P (.fieldAddr s x i) T E H O (.pointer (Ac (c.add off))):= .Ap λj w l g _ e _=>by have:=K3 (w:=w) (a:=c) f;simp_all[Kr]
def q_(P:GO)(C:List (SV N.T))(S:Nat->SV N.T)(nk:Nat)(t:Gn)(x:Er)(i:Nat)(k:Bt N.T->Nat->Option R):Option R:=match ie P t i with
 |some (off,_,m)=>match aT 0 m with
  |true=>match Av S x with
   | .loc b q=>k ⟨.loc b (q+off),[],[]⟩ nk
   | .pd t y q=>k ⟨.pd t y (q+off),[],[]⟩ nk
   | .Ee b j q a z=>k ⟨.Ee b j (q+off) a z,[],[]⟩ nk
   |_=>Dc
  |false=>Dc
 |none=>Dc
theorem pH(s:o.op= .fieldAddr t x i)(h:q_ P C S nk t x i k=Ac r):A1 P C S Rr nk o k r:=by
 have d:∀ {η:Nat->Ce} {H:Hp} {a:Act},(∀x∈o.op.operands,(Av S x).is C η H (a.eval x))->(Av S x).is C η H (a.eval x):=λe=>e x (by grind[Z8]);unfold q_ at h;split at h
 ·rename_i off K m G;split at h
  ·rename_i I;obtain⟨w,rfl⟩:∃w,m=w+1:=⟨m-1,by simp at I;omega⟩;have u:=jx.of G;split at h
   ·rename_i b q g;refine .y h (Abu λη H O a e _=>?_) λ_ _=>trivial;obtain⟨B,f,p⟩:(SV.loc b q:SV N.T).is C η H (a.eval x):=by grind
    refine⟨ptr B (q+off),?_,B,f,rf⟩;rw[s];exact Agp u (congrArg Ac p) rf
   ·rename_i J y q g;refine .y h (Abu λη H O a e _=>?_) λ_ _=>trivial;obtain⟨l,n,D,f,E,F⟩:(SV.pd J y q:SV N.T).is C η H (a.eval x):=by rw[<-g];exact d e
    refine⟨.pointer (Ac ((l.add (n+q)).add off)),?_,l,n,D,?_,E,F⟩;· rw[s];exact Aiy u (congrArg Ac f)
    ·rw[De,Ads]
   ·rename_i b j q A z g;refine .y h (Abu λη H O a e _=>?_) λτ v=>?_
    ·obtain⟨f,l,n,c,p⟩:(SV.Ee b j q A z:SV N.T).is C η H (a.eval x):=by rw[<-g];exact d e
     rw[p]at f;refine⟨.pointer (Ac ((l.add (j.toNat*A.sz N+q)).add off)),?_,?_,l,n,c,p⟩;· rw[s];exact Aiy u (congrArg Ac f)
     ·rw[p,De,Ads];rfl
    ·have:=L3 (x:=x) v;rw[g]at this;exact this
   grind
  grind
 grind
def ixK(P:GO)(S:Nat->SV N.T)(Rr:Nat->Option (SR N.T))(nk:Nat)(t:Gn)(x y:Er)(k:Bt N.T->Nat->Option R):Option R:=match P.underlying t,intOf (Av S y)with
 |some (.slice e),Ac (_,n)=>match Av S x with
  | .d (.sl c) l=>match Ps P e (c.sz N)with
   |true=>Ab (idx l n) λz=>k ⟨.pd c z 0,[],[]⟩ nk
   |false=>Dc
  | .AE b=>match Rr b with
   |some (.row _ c l)=>match Ps P e (c.sz N)with
    |true=>Ab (idx l n) λz=>k ⟨.Ee b n 0 c z,[b],[]⟩ nk
    |false=>Dc
   |_=>Dc
  |_=>Dc
 |some (.array len e),Ac (_,n)=>match Av S x,P.info? e with
  | .loc b q,Ac a=>match a.zero with
   |some _=>Ah (0<=n/\n<(len:Int)) (k ⟨.loc b (q+n.toNat*a.size),[],[]⟩ nk)
   |none=>Dc
  |_,_=>Dc
 |_,_=>Dc
theorem ni(M:o.op= .indexAddr t x y)(h:ixK P S Rr nk t x y k=Ac r):A1 P C S Rr nk o k r:=by
 have p:∀ {η:Nat->Ce} {H:Hp} {a:Act},(∀x∈o.op.operands,(Av S x).is C η H (a.eval x))->(Av S x).is C η H (a.eval x):=λd=>d x (by grind[Z8]);have s:∀ {η:Nat->Ce} {H:Hp} {a:Act},(∀x∈o.op.operands,(Av S x).is C η H (a.eval x))->(Av S y).is C η H (a.eval y):=λd=>d y (by grind[Z8]);unfold ixK at h;split at h
 ·rename_i e kk n ht Z;split at h
  ·rename_i G l T;split at h
   ·rename_i hB;obtain⟨bytes,zv,E⟩:=Dt hB;obtain⟨z,F,h⟩:=Bj h;refine .y h (Abu λη H O a d _=>?_) λ_ _=>trivial;obtain⟨cs,⟨v,rfl,hv⟩,I⟩:(SV.d (.sl G) l:SV N.T).is C η H (a.eval x):=by grind
    have I:[v]=[a.eval x]:=I;cases I;have m:=AU Z (s d);obtain⟨cs,g1,g2⟩:=G5.get hv F;have W:=bn F;have D:∃f c,a.eval x= .slice (Ac f) l.length c:=by
     rcases hv.sl with⟨_,h0⟩|⟨f,c,e,_⟩;· omega
     ·exact⟨f,c,e⟩
    obtain⟨f,c,V⟩:=D;refine⟨AX (a.eval x) (n.toNat*G.sz N),?_,f,n.toNat*G.sz N,cs,by rw[V];rfl,g1,λj u hj=>?_⟩;· rw[M];exact Agf ht E rfl hv.sl (congrArg Ac m) W
    ·have:=g2 j u hj;rw[V,Bp]at this;exact this
   grind
  ·rename_i b T;split at h
   ·rename_i g G l W;split at h
    ·rename_i hB;obtain⟨bytes,zv,E⟩:=Dt hB;obtain⟨z,F,h⟩:=Bj h;refine .y h (λη H Of a w Y L A hi d hr hfr K Q hK=>?_) λτ _ g' t' l' J=>?_
     ·rcases hr b (.inl (by simp)) _ W with e|⟨X,h1,xs,m,hL⟩;· cases e
      subst m;obtain⟨i,h2,_⟩:=Jj Of L h1;have e1:a.eval x=η b:=by
       have:(SV.AE b:SV N.T).is C η H (a.eval x):=by rw[<-T];exact p d
       exact this.1
      have m:=AU Z (s d);have hbd:=bn F;have D:∃f c,η b= .slice (Ac f) l.length c:=by
       rcases(A.IH h2).1 with⟨_,h0⟩|⟨f,c,e,_⟩;· omega
       ·exact⟨f,c,e⟩
      obtain⟨f,c,V⟩:=D;have hop:Aq P o.op o.type (EV a) H (Y.map (·.2)++Of) (AX (η b) (n.toNat*G.sz N)):=by rw[M];exact Akc ht E (congrArg Ac e1) h2 (congrArg Ac m) hbd
      refine Aeu (hop a w o rfl rfl (λx u e=>by simpa using e) A) A λw' hw'=>?_;exact hK _ w' H η Y (Hp.le.refl H) (λ_ _=>rfl) (λ_ _=>rfl) (λk sr h=>by cases h) L (λk hk=> .inl hk) hw' ⟨rfl,f,l.length,c,V⟩
     ·rw[W]at J;cases J;exact⟨Ty.SL G,by rw[F];rfl⟩
    ·cases h
   ·cases h
  grind
 ·rename_i len e kk n ht Z;split at h
  ·rename_i b q U T hi;split at h
   ·rename_i z F;obtain⟨hc,h⟩:=AG h;refine .y h (Abu λη H O a d _=>?_) λ_ _=>trivial;obtain⟨B,e1,I⟩:(SV.loc b q:SV N.T).is C η H (a.eval x):=by rw[<-T];exact p d
    have m:=AU Z (s d);refine⟨ptr B (q+n.toNat*U.size),?_,B,e1,rfl⟩;rw[M];exact Aq.wV (z:=z) ht ⟨U,hi,rfl,rfl,F⟩ (congrArg Ac I) (congrArg Ac m) hc rfl
   ·cases h
  ·cases h
 grind
def rX(P:GO)(S:Nat->SV N.T)(nk:Nat)(t:Gn)(x y:Er)(k:Bt N.T->Nat->Option R):Option R:=match P.underlying t,eQ N .str (Av S x),intOf (Av S y)with
 |some .string,Ac s,Ac (_,n)=>Ab (Ey s n) λz=>k ⟨.d (.int .u8) z,[],[]⟩ nk
 |_,_,_=>Dc
theorem kY{s:Ay}(h:(SV.d .str s:SV N.T).is C η H v):v=sv s:=by obtain⟨c,a,b⟩:=h;subst a;have b:[_]=[v]:=b;grind
theorem QI(h:(SV.d .bool b:SV N.T).is C η H v):v= .bool b:=by obtain⟨d,a,c⟩:=h;subst a;have c:[_]=[v]:=c;grind
theorem C0:(SV.d .bool b:SV N.T).is C η H (.bool b):=⟨[_],rfl,rfl⟩
theorem pL(b:o.op= .index t x y)(h:rX P S nk t x y k=Ac r):A1 P C S Rr nk o k r:=by
 unfold rX at h;split at h;· rename_i s l n j i g;obtain⟨z,d,h⟩:=Bj h;refine .y h (Abu λη H O a c _=>?_) λ_ _=>trivial;have e:=kY (I2 i (c x (by grind[Z8])));have f:=AU g (c y (by simp_all[Z8]));refine⟨.int .u8 z,?_,D8 (gW d).2⟩;rw[b];exact Ajz j (congrArg Ac e) (congrArg Ac f) d
 grind
end
end
section
variable {N : Df} {R : Type} {P : GO} {C : List (SV N.T)} {S : Nat -> SV N.T} {Rr : Nat -> Option (SR N.T)} {nk : Nat} {o : K5} {k : Bt N.T -> Nat -> Option R} {r : R}
def OD(k:Lm)(m n:Int):Int:=k.wrap ((BitVec.ofInt k.bits m&&&BitVec.ofInt k.bits n).toNat:Int)
def XF(k:Lm)(m n:Int):Int:=k.wrap ((BitVec.ofInt k.bits m|||BitVec.ofInt k.bits n).toNat:Int)
def T2(k:Lm)(m n:Int):Int:=m.fdiv (2^min n.toNat k.bits)
def NJ(k:Lm)(m n:Int):Int:=m*2^min n.toNat k.bits
def qU(b:BinOp)(a:Lm)(m n:Int)(nk:Nat)(k:Bt N.T->Nat->Option R):Option R:=match b with
 | .add=>Aa a (m+n) (k ⟨.d (.int a) (m+n),[],[]⟩ nk)
 | .sub=>Aa a (m-n) (k ⟨.d (.int a) (m-n),[],[]⟩ nk)
 | .mul=>Aa a (m*n) (k ⟨.d (.int a) (m*n),[],[]⟩ nk)
 | .lss=>k ⟨.d .bool (Ds (m<n)),[],[]⟩ nk
 | .leq=>k ⟨.d .bool (Ds (m<=n)),[],[]⟩ nk
 | .gtr=>k ⟨.d .bool (Ds (n<m)),[],[]⟩ nk
 | .geq=>k ⟨.d .bool (Ds (n<=m)),[],[]⟩ nk
 | .eql=>k ⟨.d .bool (Ds (m=n)),[],[]⟩ nk
 | .neq=>k ⟨.d .bool (Ds (m≠n)),[],[]⟩ nk
 | .quo=>Ah (n≠0) (Aa a (m.tdiv n) (k ⟨.d (.int a) (m.tdiv n),[],[]⟩ nk))
 | .rem=>Ah (n≠0) (Aa a (m.tmod n) (k ⟨.d (.int a) (m.tmod n),[],[]⟩ nk))
 | .and=>Aa a (OD a m n) (k ⟨.d (.int a) (OD a m n),[],[]⟩ nk)
 | .or=>Aa a (XF a m n) (k ⟨.d (.int a) (XF a m n),[],[]⟩ nk)
 | .shr=>Ah (0<=n) (Aa a (T2 a m n) (k ⟨.d (.int a) (T2 a m n),[],[]⟩ nk))
 | .shl=>Ah (0<=n) (Aa a (NJ a m n) (k ⟨.d (.int a) (NJ a m n),[],[]⟩ nk))
 |_=>Dc
section
variable {H : Hp} {O : List Aw} {E : Er -> Option Ce} {T Tx Ty : Gn} {x y : Er} {kk : Lm} {m n : Int}
section
variable{a b:Ay}
theorem Aid(e:E x=Ac (.int kk m))(f:E y=Ac (.int kk n))(h0:n≠0)(h:kk.min<=m.tdiv n/\m.tdiv n<=kk.max):Aq P (.binOp .quo Tx x y Ty) T E H O (.int kk (m.tdiv n)):= .Ap λa w o d _ c _=>by simp_all[Kr,eqGuard,binOp,Op.intDiv,DZ]
theorem Aic(e:E x=Ac (.int kk m))(f:E y=Ac (.int kk n))(h0:n≠0):Aq P (.binOp .rem Tx x y Ty) T E H O (.int kk (m.tmod n)):= .Ap λa w o d _ c _=>by simp_all[Kr,eqGuard,binOp,Op.intDiv]
theorem Aq.OD(e:E x=Ac (.int kk m))(f:E y=Ac (.int kk n)):Aq P (.binOp .and Tx x y Ty) T E H O (.int kk (OD kk m n)):= .Ap λa w o d _ c _=>by simp_all[Kr,eqGuard,binOp,Op.intBits,GV.OD]
theorem Aq.XF(e:E x=Ac (.int kk m))(f:E y=Ac (.int kk n)):Aq P (.binOp .or Tx x y Ty) T E H O (.int kk (XF kk m n)):= .Ap λa w o d _ c _=>by simp_all[Kr,eqGuard,binOp,Op.intBits,GV.XF]
theorem Aq.T2(e:E x=Ac (.int kk m))(f:E y=Ac (.int kk n))(h0:0<=n):Aq P (.binOp .shr Tx x y Ty) T E H O (.int kk (T2 kk m n)):= .Ap λa w o d _ c _=>by simp[Kr,d,c x _ e,c y _ f,eqGuard,binOp,Op.shift,GV.T2,Agn.2 h0]
theorem Aq.NJ(e:E x=Ac (.int kk m))(f:E y=Ac (.int kk n))(h0:0<=n)(h:kk.min<=NJ kk m n/\NJ kk m n<=kk.max):Aq P (.binOp .shl Tx x y Ty) T E H O (.int kk (NJ kk m n)):= .Ap λa w o d _ c _=>by have:=DZ h;unfold GV.NJ at this;simp[Kr,d,c x _ e,c y _ f,eqGuard,binOp,Op.shift,GV.NJ,Agn.2 h0,this]
theorem Akd(f:E x=Ac (sv a))(g:E y=Ac (sv b)):Aq P (.binOp .leq Tx x y Ty) T E H O (.bool (rR a b||decide (a=b))):= .Ap λi w o e _ d _=>by
 have h:(a==b)=Ds (a=b):=by grind
 simp_all[sv,Kr,eqGuard,binOp,xq]
theorem Akf(f:E x=Ac (sv a))(g:E y=Ac (sv b)):Aq P (.binOp .gtr Tx x y Ty) T E H O (.bool (!(rR a b||decide (a=b)))):= .Ap λi w o e _ d _=>by
 have h:(a==b)=Ds (a=b):=by grind
 simp_all[sv,Kr,eqGuard,binOp,xq]
theorem Ajy(f:E x=Ac (sv a))(g:E y=Ac (sv b)):Aq P (.binOp .geq Tx x y Ty) T E H O (.bool (!Op.bytesLess a b)):= .Ap λh w o e _ d _=>by simp_all[sv,Kr,eqGuard,binOp,xq]
theorem Aq.neg(f:E x=Ac (.int kk n))(h:kk.min<=0-n/\0-n<=kk.max):Aq P (.unOp .neg Tx x) T E H O (.int kk (0-n)):= .Ap λa w o e _ d _=>by simp_all[Kr,Op.unary,Op.intArith,DZ]
end
end
section
variable{s:SV N.T}{η:Nat->Ce}{H:Hp}{v:Ce}{x:Er}{t:Gn}
def vY(b:BinOp)(m n:Ay)(nk:Nat)(k:Bt N.T->Nat->Option R):Option R:=match b with
 | .eql=>k ⟨.d .bool (Ds (m=n)),[],[]⟩ nk
 | .neq=>k ⟨.d .bool (!decide (m=n)),[],[]⟩ nk
 | .lss=>k ⟨.d .bool (rR m n),[],[]⟩ nk
 | .leq=>k ⟨.d .bool (rR m n||decide (m=n)),[],[]⟩ nk
 | .gtr=>k ⟨.d .bool (!(rR m n||decide (m=n))),[],[]⟩ nk
 | .geq=>k ⟨.d .bool (!Op.bytesLess m n),[],[]⟩ nk
 | .add=>Ah (m.length+n.length<=Aj) (k ⟨.d .str (m++n),[],[]⟩ nk)
 |_=>Dc
def jg(s:SV N.T):Option Bool:=eQ N .bool s
def Tl(s:SV N.T):Option Ay:=eQ N .str s
theorem UP{b:Bool}(h:jg s=Ac b)(a:s.is C η H v):v= .bool b:=QI (I2 (t:= .bool) h a)
theorem I1{b:Ay}(h:Tl s=Ac b)(a:s.is C η H v):v=sv b:=kY (I2 (t:= .str) h a)
def ox:SV N.T->Option Int
 | .d (.int .u8) x=>Ac x
 |_=>Dc
theorem Zj{n:Int}(h:ox s=Ac n)(d:s.is C η H v):v= .int .u8 n/\0<=n/\n<=255:=by
 unfold ox at h;split at h;· cases h;obtain⟨e,b,a⟩:=d;obtain⟨rfl,c⟩:=D6.1 b;cases a;trivial
 grind
def aj:SV N.T->Option Nat
 | .na n| .ct _ n| .cb _ n=>Ac n
 |_=>Dc
theorem gv{n:Nat}(h:aj s=Ac n)(a:s.is C η H v):v= .int .i64 n/\n<=Rc:=by
 unfold aj at h;split at h;· cases h;exact a
 ·cases h;exact a
 ·cases h;exact⟨a.1,Agk a.2⟩
 grind
def FH(b:BinOp)(x y:SV N.T):Option (SV N.T):=match b,x,y with
 | .lss, .ct i n, .na m=>Ac (.lt i n m)
 | .add, .cb _ n, .raw (.int .i64 1)=>Ac (.na (n+1))
 |_,_,_=>Dc
theorem iN{b:BinOp}{x y:SV N.T}(h:FH b x y=Ac s):(∃i n m,b= .lss/\x= .ct i n/\y= .na m/\s= .lt i n m)\/(∃i n,b= .add/\x= .cb i n/\y= .raw (.int .i64 1)/\s= .na (n+1)):=by unfold FH at h;grind
def sA(
     P:GO) (S:Nat->SV N.T) (nk:Nat) (b:BinOp) (t:Gn) (x y:Er) (k:Bt N.T->Nat->Option R):Option R:=match FH b (Av S x) (Av S y)with
 |some s=>k ⟨s,[],[]⟩ nk
 |none=>match intOf (Av S x),intOf (Av S y)with
  |some (c,m),Ac (a,n)=>match kb c a with
   |true=>qU b c m n nk k
   |false=>Dc
  |_,_=>match P.underlying t with
   |some .string=>match Tl (Av S x),Tl (Av S y)with
    |some m,Ac n=>vY b m n nk k
    |_,_=>Dc
   |some .bool=>match jg (Av S x),jg (Av S y)with
    |some m,Ac n=>match b with
     | .eql=>k ⟨.d .bool (m==n),[],[]⟩ nk
     | .neq=>k ⟨.d .bool (!(m==n)),[],[]⟩ nk
     |_=>Dc
    |_,_=>Dc
   |_=>Dc
theorem ok_int{b:BinOp}{t u:Gn}{x y:Er}{i:Lm}{m n:Int}(v:o.op= .binOp b t x y u)(s:intOf (Av S x)=Ac (i,m))(F:intOf (Av S y)=Ac (i,n))(h:qU b i m n nk k=Ac r):A1 P C S Rr nk o k r:=by
 have w:∀ {η:Nat->Ce} {H:Hp} {a:Act},(∀x∈o.op.operands,(Av S x).is C η H (a.eval x))->EV a x=Ac (.int i m):=λg=>congrArg Ac (AU s (g x (by grind[Z8])));have A:∀ {η:Nat->Ce} {H:Hp} {a:Act},(∀x∈o.op.operands,(Av S x).is C η H (a.eval x))->EV a y=Ac (.int i n):=λg=>congrArg Ac (AU F (g y (by grind[Z8])));have p:∀ {c:Bool},k ⟨.d .bool c,[],[]⟩ nk=Ac r->(∀(H:Hp) (O:List Aw) (a:Act),EV a x=Ac (.int i m)->EV a y=Ac (.int i n)->Aq P o.op o.type (EV a) H O (.bool c))->A1 P C S Rr nk o k r:=λh g=>
  .y h (Abu λη H O a s _=>⟨_,g H O a (w s) (A s),C0⟩) λ_ _=>trivial;have l:∀ {z:Int},Aa i z (k ⟨.d (.int i) z,[],[]⟩ nk)=Ac r->(∀(H:Hp) (O:List Aw) (a:Act),EV a x=Ac (.int i m)->EV a y=Ac (.int i n)->i.min<=z/\z<=i.max->Aq P o.op o.type (EV a) H O (.int i z))->A1 P C S Rr nk o k r:=λh g=>by
  obtain⟨B,D,E⟩:=B_ h;exact .y E (Abu λη H O a s _=>⟨_,g H O a (w s) (A s) B,D8 D⟩) λ_ _=>trivial
 rw[v]at p l;unfold qU at h;split at h;· grind[Aq.add]
 ·grind[Aq.sub]
 ·grind[Aq.mul]
 ·exact p h λH O a e f=>Aq.lss e f
 ·exact p h λH O a e f=>Aq.leq e f
 ·exact p h λH O a e f=>Aq.gtr e f
 ·exact p h λH O a e f=>Aq.geq e f
 ·exact p h λH O a e f=>Aq.eql e f
 ·exact p h λH O a e f=>Aq.neq e f
 ·obtain⟨q,h⟩:=AG h;exact l h λH O a e f j=>Aid e f q j
 ·obtain⟨q,h⟩:=AG h;exact l h λH O a e f j=>Aic e f q
 ·exact l h λH O a e f j=>Aq.OD e f
 ·exact l h λH O a e f j=>Aq.XF e f
 ·obtain⟨q,h⟩:=AG h;exact l h λH O a e f j=>Aq.T2 e f q
 ·obtain⟨q,h⟩:=AG h;exact l h λH O a e f j=>Aq.NJ e f q j
 grind
theorem pQ{b:BinOp}{t u:Gn}{x y:Er}(l:o.op= .binOp b t x y u)(h:sA P S nk b t x y k=Ac r):A1 P C S Rr nk o k r:=by
 have p:∀ {η:Nat->Ce} {H:Hp} {a:Act},(∀x∈o.op.operands,(Av S x).is C η H (a.eval x))->(Av S x).is C η H (a.eval x):=λe=>e x (by grind[Z8]);have q:∀ {η:Nat->Ce} {H:Hp} {a:Act},(∀x∈o.op.operands,(Av S x).is C η H (a.eval x))->(Av S y).is C η H (a.eval y):=λe=>e y (by grind[Z8]);unfold sA at h;split at h
 ·rename_i s hc;rcases iN hc with⟨i,n,m,rfl,f,j,rfl⟩|⟨i,n,rfl,f,j,rfl⟩
  ·refine .y h (Abu λη H O a e _=>?_) λτ F=>?_;· have w:=p e;rw[f]at w;have z:=q e;rw[j]at z;refine⟨_,?_,rf,z.2⟩;rw[l];exact Aq.lss (congrArg Ac w.1) (congrArg Ac z.1)
   ·have:=L3 (x:=x) F;rw[f]at this;trivial
  ·refine .y h (Abu λη H O a e _=>?_) λ_ _=>trivial;have w:=p e;rw[f]at w;have z:=q e;rw[j]at z;have G:=w.2;refine⟨.int .i64 ((n:Int)+1),?_,rf,G⟩;rw[l];exact Aq.add (congrArg Ac w.1) (congrArg Ac z) (UD (by grind))
 ·split at h
  ·grind[OH,ok_int]
  ·split at h
   ·rename_i D;split at h
    ·rename_i m n e E;have A:∀ {η:Nat->Ce} {H:Hp} {a:Act},(∀x∈o.op.operands,(Av S x).is C η H (a.eval x))->EV a x=Ac (sv m):=λg=>congrArg Ac (I1 e (p g));have B:∀ {η:Nat->Ce} {H:Hp} {a:Act},(∀x∈o.op.operands,(Av S x).is C η H (a.eval x))->EV a y=Ac (sv n):=λg=>congrArg Ac (I1 E (q g));have v:∀ {c:Bool},k ⟨.d .bool c,[],[]⟩ nk=Ac r->(∀(H:Hp) (O:List Aw) (a:Act),EV a x=Ac (sv m)->EV a y=Ac (sv n)->Aq P o.op o.type (EV a) H O (.bool c))->A1 P C S Rr nk o k r:=λh g=>
      .y h (Abu λη H O a e _=>⟨_,g H O a (A e) (B e),C0⟩) λ_ _=>trivial;rw[l]at v;unfold vY at h;split at h;· exact v h λH O a f j=>Ahm D f j
     ·exact v h λH O a f j=>Ake D f j
     ·exact v h λH O a f j=>Ahl f j
     ·exact v h λH O a f j=>Akd f j
     ·exact v h λH O a f j=>Akf f j
     ·exact v h λH O a f j=>Ajy f j
     ·obtain⟨I,J⟩:=AG h;exact .y J (Abu λη H O a e _=>⟨sv (m++n),by rw[l];exact Aki (A e) (B e) I,[_],rfl,rfl⟩) λ_ _=>trivial
     trivial
    grind
   ·rename_i D;split at h
    ·rename_i m n e E;have A:∀ {η:Nat->Ce} {H:Hp} {a:Act},(∀x∈o.op.operands,(Av S x).is C η H (a.eval x))->EV a x=Ac (.bool m):=λg=>congrArg Ac (UP e (p g));have B:∀ {η:Nat->Ce} {H:Hp} {a:Act},(∀x∈o.op.operands,(Av S x).is C η H (a.eval x))->EV a y=Ac (.bool n):=λg=>congrArg Ac (UP E (q g));split at h;· exact .y h (Abu λη H O a e _=>⟨_,by rw[l];exact Ajg D (A e) (B e),C0⟩) λ_ _=>trivial
     ·exact .y h (Abu λη H O a e _=>⟨_,by rw[l];exact Aje D (A e) (B e),C0⟩) λ_ _=>trivial
     ·cases h
    ·cases h
   grind
def pY(S:Nat->SV N.T)(nk:Nat)(x:Er)(k:Bt N.T->Nat->Option R):Option R:=match Av S x with
 | .lb b=>k ⟨.lb (!b),[],[]⟩ nk
 |s=>match jg s with
  |some b=>k ⟨.d .bool (!b),[],[]⟩ nk
  |none=>Dc
theorem pa(e:o.op= .unOp .not t x)(h:pY S nk x k=Ac r):A1 P C S Rr nk o k r:=by
 have c:∀ {η:Nat->Ce} {H:Hp} {a:Act},(∀x∈o.op.operands,(Av S x).is C η H (a.eval x))->(Av S x).is C η H (a.eval x):=λd=>d x (by grind[Z8]);unfold pY at h;split at h;· rename_i b g;refine .y h (Abu λη H O a d _=>⟨.bool (!b),?_,rfl⟩) λ_ _=>trivial;have:=c d;rw[g]at this;rw[e];exact Aq.not (congrArg Ac this)
 ·split at h;· rename_i b f;exact .y h (Abu λη H O a d _=>⟨_,by rw[e];exact Aq.not (congrArg Ac (UP f (c d))),C0⟩) λ_ _=>trivial
  grind
def qd(S:Nat->SV N.T)(nk:Nat)(x:Er)(k:Bt N.T->Nat->Option R):Option R:=match intOf (Av S x)with
 |some (a,n)=>Aa a (0-n) (k ⟨.d (.int a) (0-n),[],[]⟩ nk)
 |none=>Dc
theorem pf{t:Gn}{x:Er}(d:o.op= .unOp .neg t x)(h:qd S nk x k=Ac r):A1 P C S Rr nk o k r:=by
 have b:∀ {η:Nat->Ce} {H:Hp} {a:Act},(∀x∈o.op.operands,(Av S x).is C η H (a.eval x))->(Av S x).is C η H (a.eval x):=λc=>c x (by grind[Z8]);unfold qd at h;split at h;· rename_i j n i;obtain⟨e,f,g⟩:=B_ h;exact .y g (Abu λη H O a c _=>⟨_,by rw[d];exact Aq.neg (congrArg Ac (AU i (b c))) e,D8 f⟩) λ_ _=>trivial
 grind
def qx(P:GO)(S:Nat->SV N.T)(Rr:Nat->Option (SR N.T))(nk:Nat)(x:Er)(t:Gn)(k:Bt N.T->Nat->Option R):Option R:=match P.underlying t with
 |some (.slice _)=>match Av S x with
  | .d (.sl _) l=>k ⟨.na l.length,[],[]⟩ nk
  | .AE b=>match Rr b with
   |some (.row _ _ l)=>k ⟨.na l.length,[b],[]⟩ nk
   |_=>Dc
  | .raw (.slice Dc 0 0)=>k ⟨.na 0,[],[]⟩ nk
  |_=>Dc
 |some .string=>match Tl (Av S x)with
  |some s=>k ⟨.d (.int .i64) ((s.length:Nat):Int),[],[]⟩ nk
  |none=>Dc
 |_=>Dc
theorem pz(q:o.op= .call {callee:= .builtin .len,args:= #[x],argTypes:= #[t]})(h:qx P S Rr nk x t k=Ac r):A1 P C S Rr nk o k r:=by
 have c:∀ {η:Nat->Ce} {H:Hp} {a:Act},(∀x∈o.op.operands,(Av S x).is C η H (a.eval x))->(Av S x).is C η H (a.eval x):=λf=>f x (by grind[Z8,Call.operands]);unfold qx at h;split at h
 ·rename_i e z;split at h
  ·rename_i I l j;refine .y h (Abu λη H O a f _=>?_) λ_ _=>trivial;obtain⟨cs,⟨v,rfl,G⟩,A⟩:(SV.d (.sl I) l:SV N.T).is C η H (a.eval x):=by grind
   have A:[v]=[a.eval x]:=A;cases A;exact⟨_,by rw[q];exact Aq.len z rfl G.sl,rfl,G.le⟩
  ·rename_i b j;split at h
   ·rename_i g I l U;refine .y h (λη H E a w Y p d hi f Z V K Q T=>?_) λ_ _=>trivial;rcases Z b (.inl (by simp)) _ U with e|⟨X,M,xs,L,hL⟩;· grind
    subst L;obtain⟨i,F,_⟩:=Jj E p M;have J:a.eval x=η b:=by
     have:(SV.AE b:SV N.T).is C η H (a.eval x):=by grind
     exact this.1
    have B:Aq P o.op o.type (EV a) H (Y.map (·.2)++E) (.int .i64 l.length):=by rw[q];exact Aq.len z (congrArg Ac J) (d.IH F).1
    refine Aeu (B a w o rfl rfl (λx u e=>by simpa using e) d) d λw' D=>?_;exact T _ w' H η Y (Hp.le.refl H) (λ_ _=>rfl) (λ_ _=>rfl) (λk sr h=>by cases h) p (λk W=> .inl W) D ⟨rfl,d.Og F⟩
   grind
  ·rename_i j;refine .y h (Abu λη H O a f _=>?_) λ_ _=>trivial;have:=c f;rw[j]at this;exact⟨_,by rw[q];exact Aq.len (n:=0) z rfl (.inl ⟨this,rfl⟩),rfl,Abg _⟩
  grind
 ·rename_i z;split at h;· rename_i s j;exact .y h (Abu λη H O a f _=>⟨_,by rw[q];exact Aik z (congrArg Ac (I1 j (c f))),D8 trivial⟩) λ_ _=>trivial
  ·cases h
 grind
def cvK(P:GO)(S:Nat->SV N.T)(nk:Nat)(s d:Gn)(x:Er)(k:Bt N.T->Nat->Option R):Option R:=match P.underlying s,P.underlying d with
 |some (.int _),Ac (.int a)=>match ox (Av S x),a with
  |some n, .i64=>k ⟨.d (.int .i64) n,[],[]⟩ nk
  |some n, .u8=>k ⟨.d (.int .u8) n,[],[]⟩ nk
  |_,_=>match aj (Av S x),a with
   |some n, .i64=>k ⟨.na n,[],[]⟩ nk
   |_,_=>match intOf (Av S x)with
    |some (_,n)=>Aa a n (k ⟨.d (.int a) n,[],[]⟩ nk)
    |none=>Dc
 |_,_=>Dc
theorem nn{s d:Gn}(i:o.op= .convert s d x)(h:cvK P S nk s d x k=Ac r):A1 P C S Rr nk o k r:=by
 have b:∀ {η:Nat->Ce} {H:Hp} {a:Act},(∀x∈o.op.operands,(Av S x).is C η H (a.eval x))->(Av S x).is C η H (a.eval x):=λt=>t x (by grind[Z8]);unfold cvK at h;split at h
 ·rename_i w v l j;split at h;· rename_i n c;refine .y h (Abu λη H O a g _=>?_) λ_ _=>trivial;obtain⟨f,e⟩:=Zj c (b g);exact⟨.int .i64 n,by rw[i];exact Aq.conv l j (congrArg Ac f) (UD (by omega)),D8 trivial⟩
  ·rename_i n c;refine .y h (Abu λη H O a g _=>?_) λ_ _=>trivial;obtain⟨f,e⟩:=Zj c (b g);exact⟨.int .u8 n,by rw[i];exact Aq.conv l j (congrArg Ac f) (ra e),D8 e⟩
  ·split at h;· rename_i n c _ _;refine .y h (Abu λη H O a g _=>?_) λ_ _=>trivial;obtain⟨f,e⟩:=gv c (b g);exact⟨.int .i64 n,by rw[i];exact Aq.conv l j (congrArg Ac f) (UD (by grind)),rfl,e⟩
   ·split at h;· rename_i u n c;obtain⟨m,p,q⟩:=B_ h;exact .y q (Abu λη H O a g _=>⟨_,by rw[i];exact Aq.conv l j (congrArg Ac (AU c (b g))) m,D8 p⟩) λ_ _=>trivial
    grind
 grind
def rl(S:Nat->SV N.T)(nk:Nat)(x:Er)(i:Nat)(k:Bt N.T->Nat->Option R):Option R:=match Av S x,i with
 | .t2 a _,0=>k ⟨a,[],[]⟩ nk
 | .t2 _ b,1=>k ⟨b,[],[]⟩ nk
 | .t3 a _ _,0=>k ⟨a,[],[]⟩ nk
 | .t3 _ b _,1=>k ⟨b,[],[]⟩ nk
 | .t3 _ _ c,2=>k ⟨c,[],[]⟩ nk
 |_,_=>Dc
def EY:SV N.T->Bool
 | .ct _ _| .cb _ _| .lt _ _ _| .Ee _ _ _ _ _=>Ak
 |_=>Br
theorem DE{s:SV N.T}{τ:Nat->Nat}(h:EY s=Br):D' τ Rr s:=by cases s<;>first|trivial|cases h
theorem pI{i:Nat}(u:o.op= .extract x i)(h:rl S nk x i (λs n=>match EY s.sv with|true=>k s n|false=>Dc)=Ac r):A1 P C S Rr nk o k r:=by
 have q:∀ {η:Nat->Ce} {H:Hp} {a:Act},(∀x∈o.op.operands,(Av S x).is C η H (a.eval x))->(Av S x).is C η H (a.eval x):=λd=>d x (by grind[Z8]);have f:∀ {s:SV N.T},(match EY s with|true=>k ⟨s,[],[]⟩ nk|false=>Dc)=Ac r->(∀ {η:Nat->Ce} {H:Hp} {a:Act},(Av S x).is C η H (a.eval x)->∃t v,a.eval x= .tuple t/\t[i]?=Ac v/\s.is C η H v)->A1 P C S Rr nk o k r:=λ{s} h g=>by
  split at h;· rename_i D;refine .y h (Abu λη H O a d _=>?_) λ_ _=>DE D;obtain⟨t,v,w,A,B⟩:=g (q d);exact⟨v,by rw[u];exact Aq.extract (congrArg Ac w) A,B⟩
  grind
 unfold rl at h;split at h;· rename_i a b j;exact f h λd=>by rw[j]at d;obtain⟨x,y,e,l,m⟩:=d;exact⟨_,_,e,rfl,l⟩
 ·rename_i a b j;exact f h λd=>by rw[j]at d;obtain⟨x,y,e,l,m⟩:=d;exact⟨_,_,e,rfl,m⟩
 ·rename_i a b c j;exact f h λd=>by rw[j]at d;obtain⟨x,y,z,e,l,m,p⟩:=d;exact⟨_,_,e,rfl,l⟩
 ·rename_i a b c j;exact f h λd=>by rw[j]at d;obtain⟨x,y,z,e,l,m,p⟩:=d;exact⟨_,_,e,rfl,m⟩
 ·rename_i a b c j;exact f h λd=>by rw[j]at d;obtain⟨x,y,z,e,l,m,p⟩:=d;exact⟨_,_,e,rfl,p⟩
 grind
end
end
end Go.GV
