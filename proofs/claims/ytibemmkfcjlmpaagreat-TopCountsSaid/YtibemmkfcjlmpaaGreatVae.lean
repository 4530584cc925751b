/- What the program computes, step by step, and the rules for it. No condition of its own. -/
import Derived.Test.YtibemmkfcjlmpaaGreatVad
set_option linter.unusedSimpArgs false
set_option linter.unusedVariables false
set_option maxRecDepth 100000
set_option maxHeartbeats 8000000
namespace Go.Proofs.YtibemmkfcjlmpaaGreat
open Go.RowKit
theorem Rest.clean {g:Gt} {n:Nat} (h:Rest g n):Rest { g with out:=[] } n:=⟨{ h.mid with },h.late,h.dr⟩
theorem Rest.opened {g:Gt} {n:Nat} (h:Rest g n) {key:Int} (k0:0 ≤ key) (k1:key ≤ 4294967295) (hn:n + 1 ≤ 1000000):Rest (g.opened key) (n + 1):=by
 have hm:=h.mid.opened k0 k1 hn
 have h7:=h.mid.c.w7
 refine ⟨hm,?_,?_⟩
 ·unfold Gt.opened
  split
  ·exact h.late
  ·split
   ·exact h.late
   ·intro f hf
    rcases insF_mem.1 hf with rfl | hf
    ·show g.now < g.now + g.c.c7;omega
    ·exact h.late f hf
 ·unfold Gt.opened
  split
  ·exact h.dr
  ·split
   ·exact h.dr
   ·exact h.dr
theorem dueA_fl {g:Gt} {i:Nat} {z:Int} {f:Flw} (hf:f ∈ (g.dueA i z).fl):f ∈ g.fl ∨ f.due=z:=by
 rcases List.mem_or_eq_of_mem_set hf with h | rfl
 ·exact .inl h
 ·exact .inr rfl
theorem Rest.flowed {g:Gt} {n:Nat} (h:Rest g n) (e:Evt):Rest (g.flow e) n:=by
 have hm:=h.mid.flowed e
 suffices hh:(∀ f ∈ (g.flow e).fl,(g.flow e).now < f.due) ∧ (∀ x ∈ (g.flow e).L,x.state=3 → (g.flow e).now < x.til) from ⟨hm,hh.1,hh.2⟩
 have h6:=h.mid.c.w6
 unfold Gt.flow
 split
 ·exact ⟨h.late,h.dr⟩
 ·rename_i hg
  obtain ⟨f,hf,e1,e2⟩:=h.mid.fs.got (Decidable.not_not.1 hg)
  obtain ⟨hi,he,_,hgd⟩:=find_mem h.mid.fs.so hf
  simp only
  rw[← e1]
  split
  ·obtain ⟨h1,h2⟩:=drop_same h.mid hi ⟨7,0,0,0,0,0,0⟩
   refine ⟨fun f hf => ?_,fun x hx h3 => ?_⟩
   ·rw[h1.now];exact h.late f ((h2 f).1 hf).1
   ·rw[h1.now];exact (h1.L x hx).elim (fun hx => h.dr x hx h3) (fun h4 => by omega)
  ·split
   ·split
    ·refine ⟨fun f hf => ?_,h.dr⟩
     rcases dueA_fl hf with h1 | h1
     ·exact h.late f h1
     ·show g.now < f.due;omega
    ·exact ⟨h.late,h.dr⟩
   ·split
    ·exact ⟨h.late,h.dr⟩
    ·split
     ·refine ⟨fun f hf => ?_,h.dr⟩
      have hf:f ∈ (((g.served (findF g.fl _).toNat).note _ false).dueA (findF g.fl _).toNat (g.now + g.c.c6)).fl:=hf
      rw[(served_due g _ hi _ _ false).1] at hf
      rcases List.mem_or_eq_of_mem_set hf with h1 | rfl
      ·exact h.late f h1
      ·show g.now < g.now + g.c.c6;omega
     ·obtain ⟨h1,h2,_⟩:=failed_same h.mid hi 3
      refine ⟨fun f hf => ?_,fun x hx h3 => ?_⟩
      ·rw[h1.now];exact (h2 f hf).elim (fun h4 => h.late f h4.1) id
      ·rw[h1.now];exact (h1.L x hx).elim (fun hx => h.dr x hx h3) (fun h4 => by omega)
theorem Rest.asked {g:Gt} {n:Nat} (h:Rest g n) {e:Evt} (he:EvtOk e):Rest (g.ask e) n:=by
 have hm:=h.mid.asked he
 have hc:=ask_cases h.mid.bk (reqOf e) g.now g.c.c5
 have h5:=h.mid.c.w5
 have hbk:=ask_ok h.mid.bk (reqOf e) (reqOf_ok he) g.now g.c.c5 h.mid.n0 (by have:=h.mid.n1;have:=h.mid.nn;omega) (by omega) h5.2
 have key:∀ x ∈ (askM g.L g.R (reqOf e) g.now g.c.c5).L,x.state=3 → g.now < x.til:=by
  intro x hx h3
  rcases hc with ⟨h1,_⟩ | ⟨_,_,_,_,h6⟩ | ⟨_,_,_,_,h6⟩
  ·rw[h1] at hx;exact h.dr x hx h3
  ·rcases (h6 x).1 hx with rfl | ⟨h1,_⟩
   ·cases h3
   ·exact h.dr x h1 h3
  ·rcases (h6 x).1 hx with rfl | ⟨h1,_⟩
   ·show g.now < g.now + g.c.c5;omega
   ·exact h.dr x h1 h3
 suffices hh:(∀ f ∈ (g.ask e).fl,(g.ask e).now < f.due) ∧ (∀ x ∈ (g.ask e).L,x.state=3 → (g.ask e).now < x.til) from ⟨hm,hh.1,hh.2⟩
 unfold Gt.ask
 simp only
 split
 ·exact ⟨h.late,key⟩
 ·split
  ·exact ⟨h.late,key⟩
  ·obtain ⟨s1,s2,s3⟩:=spared_same (g:={ g with L:=(askM g.L g.R (reqOf e) g.now g.c.c5).L,R:=(askM g.L g.R (reqOf e) g.now g.c.c5).R,out:=g.out ++ [⟨8,0,0,0,e.req,(askM g.L g.R (reqOf e) g.now g.c.c5).answer,0⟩],ws:=g.ws.set e.backend.toNat 0 }) hbk.sorted e.backend
   refine ⟨fun f hf => ?_,fun x hx h3 => ?_⟩
   ·rw[s1.now];rw[s2] at hf;exact h.late f hf
   ·rw[s1.now];exact (s1.L x hx).elim (fun hx => key x hx h3) (fun h4 => by omega)
theorem Rest.up {g:Gt} {n:Nat} (h:Rest g n) (hn:n + 1 ≤ 1000000):Rest g (n + 1):=⟨h.mid.up hn,h.late,h.dr⟩
theorem Rest.done {g:Gt} {n:Nat} (h:Rest g n) {e:Evt} (he:EvtOk e) (hn:n + 1 ≤ 1000000):Rest (g.done e) (n + 1):=by
 have hc:=h.clean
 unfold Gt.done Gt.step
 split
 ·exact hc.opened he.2.2.1 he.2.2.2.1 hn
 ·split
  ·exact (hc.asked he).up hn
  ·split
   ·exact hc.tick hn
   ·exact (hc.flowed e).up hn
def begM (c:Cfg):Gt:=⟨c,0,List.replicate c.slots.toNat tzero,[],[],[],List.replicate 12 0,List.replicate 12 hzero,c.bud.full,0,[],[]⟩
theorem beg_rest {c:Cfg} (h:c.Ok):Rest (begM c) 0:=by
 have h0:=h.w0
 have hb:=h.b.full
 have hs:∀ s ∈ List.replicate c.slots.toNat tzero,s=tzero:=fun s hs => (List.mem_replicate.1 hs).2
 refine ⟨⟨h,by show (0:Int) ≤ 0;omega,by show (0:Int) ≤ _;omega,by omega,rfl,?_,?_,?_,⟨by simp[begM],by simp[begM],by simp[begM],by simp[begM],List.Pairwise.nil,by simp[begM]⟩,by simp[begM],by simp[begM],by simp[begM,wsOf,lifeM,ofM,findM,idxZ,actW,List.range_succ];decide,by simp[begM],?_,hb.1,by show c.bud.full ≤ c.bud.full;omega,⟨List.Pairwise.nil,by simp[begM],?_⟩,by simp[begM],List.Pairwise.nil,?_⟩,by simp[begM],by simp[begM]⟩
 ·refine ⟨by simp[begM];omega,by simp[begM];omega,fun s hs2 => ?_⟩
  rw[hs s hs2]
  exact ⟨by show (0:Int) ≤ 0;omega,fun _ => ⟨by show (0:Int) ≤ _;omega,rfl,rfl⟩,fun h => by cases h⟩
 ·simp[begM];omega
 ·intro s hs2
  rw[hs s hs2];simp[tzero]
 ·intro x hx
  have hx:=(List.mem_replicate.1 hx).2
  subst hx
  have hw:=h.w
  exact ⟨⟨by show ((([]:List Bool).length:Nat):Int) ≤ _;have:=hw.1;simp[begM];omega,by show (0:Int) ≤ 0;omega,by show (0:Int) ≤ 10;omega,by show (0:Int) ≤ 0;omega,by show (0:Int) ≤ _;omega,fun _ => rfl⟩,fun h => by cases h⟩
 ·intro s hl hu
  exfalso
  have:(List.replicate c.slots.toNat tzero).getD s tzero=tzero:=by
   rw[zC,List.getElem?_replicate];split <;> rfl
  have hu:((List.replicate c.slots.toNat tzero).getD s tzero).used=true:=hu
  rw[this] at hu
  cases hu
 ·intro t
  simp[begM]
structure Fs where
 ph:Nat
 b:Int
 sv:Bool
 ag:Nat
 deriving DecidableEq
def fs0:Fs:=⟨0,0,false,0⟩
def Fs.bad:Fs:=⟨3,0,false,0⟩
def Fs.step (s:Fs) (o:Outp):Fs:=
 if o.kind=1 then (if s.ph=0 then ⟨1,o.backend,false,0⟩ else .bad)
 else if s.ph ≠ 1 then .bad
 else if o.kind=3 then s
 else if o.kind=4 then (if s.sv=true then .bad else { s with sv:=true })
 else if o.kind=5 then (if s.sv=true then .bad else { s with b:=o.backend,ag:=s.ag + 1 })
 else if o.kind=6 then (if (s.sv=true ∧ o.why ≠ 1 ∧ o.why ≠ 2) ∨ (s.sv=false ∧ o.why=1) then .bad else { s with ph:=2 })
 else if o.kind=7 then { s with ph:=2 } else .bad
def isFl (o:Outp):Bool:=decide (o.kind=1 ∨ o.kind=3 ∨ o.kind=4 ∨ o.kind=5 ∨ o.kind=6 ∨ o.kind=7)
def ofH (slot gen:Int) (o:Outp):Bool:=isFl o && decide (o.slot=slot ∧ o.gen=gen)
def fsOf (log:List Outp) (slot gen:Int):Fs:=(log.filter (ofH slot gen)).foldl Fs.step fs0
theorem fsOf_snoc (log:List Outp) (o:Outp) (slot gen:Int):fsOf (log ++ [o]) slot gen=if ofH slot gen o=true then (fsOf log slot gen).step o else fsOf log slot gen:=by
 unfold fsOf
 rw[List.filter_append,List.foldl_append]
 cases h:ofH slot gen o <;> simp[h]
def HOk (log:List Outp) (g:Gt) (slot gen:Int):Prop:=
 (∃ f ∈ g.fl,f.slot=slot ∧ f.gen=gen ∧ fsOf log slot gen=⟨1,f.backend,f.serving,f.tries.toNat⟩) ∨
 ((∀ f ∈ g.fl,¬ (f.slot=slot ∧ f.gen=gen)) ∧ (0 ≤ slot ∧ slot < g.tb.length ∧ 0 ≤ gen ∧ gen < (g.tb.getD slot.toNat tzero).gen) ∧ (fsOf log slot gen).ph=2 ∧ ((fsOf log slot gen).ag:Int) ≤ g.c.c8) ∨
 ((∀ f ∈ g.fl,¬ (f.slot=slot ∧ f.gen=gen)) ∧ ¬ (0 ≤ slot ∧ slot < g.tb.length ∧ 0 ≤ gen ∧ gen < (g.tb.getD slot.toNat tzero).gen) ∧ fsOf log slot gen=fs0)
def LI (pre:List Outp) (g:Gt):Prop:=∀ slot gen,HOk (pre ++ g.out) g slot gen
theorem LI.keep {pre:List Outp} {g g':Gt} (h:LI pre g) (hf:g'.fl=g.fl) (ht:g'.tb=g.tb) (hc:g'.c=g.c) (ho:g'.out=g.out ∨ ∃ o,g'.out=g.out ++ [o] ∧ isFl o=false):LI pre g':=by
 have hfs:∀ slot gen,fsOf (pre ++ g'.out) slot gen=fsOf (pre ++ g.out) slot gen:=fun slot gen => by
  rcases ho with e | ⟨o,e,hk⟩
  ·rw[e]
  ·rw[e,← List.append_assoc,fsOf_snoc]
   simp[ofH,hk]
 intro slot gen
 have:=h slot gen
 unfold HOk at this ⊢
 rw[hfs,hf,ht,hc]
 exact this
theorem LI.put {pre:List Outp} {g:Gt} (h:LI pre g) {o:Outp} (ho:isFl o=false):LI pre (g.put o):=h.keep rfl rfl rfl (.inr ⟨o,rfl,ho⟩)
theorem LI.note {pre:List Outp} {g:Gt} (h:LI pre g) (b:Int) (failed:Bool):LI pre (g.note b failed):=h.keep rfl rfl rfl (.inl rfl)
theorem LI.spared {pre:List Outp} {g:Gt} (h:LI pre g) (b:Int):LI pre (g.spared b):=by
 unfold Gt.spared
 split
 ·exact h.keep rfl rfl rfl (.inr ⟨_,rfl,by simp[isFl,goneO]⟩)
 ·exact h
theorem ofH_self {o:Outp} (h:isFl o=true):ofH o.slot o.gen o=true:=by simp[ofH,h]
theorem ofH_other {o:Outp} {slot gen:Int} (h:¬ (o.slot=slot ∧ o.gen=gen)):ofH slot gen o=false:=by simp[ofH];intro _;exact fun h1 h2 => h ⟨h1,h2⟩
theorem LI.live {pre:List Outp} {g:Gt} (h:LI pre g) {f:Flw} (hf:f ∈ g.fl) (hs:FlT g.tb g.fl):fsOf (pre ++ g.out) f.slot f.gen=⟨1,f.backend,f.serving,f.tries.toNat⟩:=by
 rcases h f.slot f.gen with ⟨f',h1,h2,_,h3⟩ | ⟨h1,_⟩ | ⟨h1,_⟩
 ·rw[h3,hs.uniq h1 hf h2]
 ·exact absurd ⟨rfl,rfl⟩ (h1 f hf)
 ·exact absurd ⟨rfl,rfl⟩ (h1 f hf)
theorem LI.drop {pre:List Outp} {g:Gt} {n:Nat} (h:LI pre g) (hm:Mid g n (-1)) {i:Nat} (hi:i < g.fl.length) {o:Outp}
  (ho:o.kind=7 ∨ (o.kind=6 ∧ ((g.fl.getD i default).serving=true → o.why=1 ∨ o.why=2) ∧ ((g.fl.getD i default).serving=false → o.why ≠ 1))):LI pre (g.drop i o):=by
 have hmem:=List.getElem_mem hi
 have hg:=getD_at default hi
 rw[hg] at ho
 unfold Gt.drop
 refine LI.spared ?_ _
 have hlv:=h.live hmem hm.fs
 have hfl:=hm.flow hmem
 have htr:=(hm.fe _ hmem)
 have hinj:=fun {j:Nat} (hj:j < g.fl.length) (hne:j ≠ i) => hm.fs.slot_lt hj hi hne
 intro slot gen
 have hh:=h slot gen
 unfold Gt.dropA
 rw[hg]
 obtain ⟨f,hff⟩:∃ f,f=g.fl[i]:=⟨_,rfl⟩
 simp only[← hff] at ho hlv hfl htr hmem hinj ⊢
 obtain ⟨o',hoo⟩:∃ o':Outp,o'={ o with slot:=f.slot,gen:=f.gen,backend:=f.backend }:=⟨_,rfl⟩
 rw[← hoo]
 have hk:isFl o'=true:=by
  rw[hoo]
  rcases ho with e | ⟨e,_⟩ <;> simp[isFl,e]
 unfold HOk
 simp only
 rw[← List.append_assoc,fsOf_snoc]
 have hnone:∀ x ∈ g.fl.eraseIdx i,x.slot ≠ f.slot:=fun x hx => by
  obtain ⟨j,hj,hji,rfl⟩:=mem_erase hx
  exact hinj hj hji
 by_cases e:f.slot=slot ∧ f.gen=gen
 ·obtain ⟨rfl,rfl⟩:=e
  right;left
  have e1:ofH f.slot f.gen o'=true:=by
   have:=ofH_self hk
   rw[hoo] at this ⊢;exact this
  rw[if_pos e1,hlv]
  have hst:(Fs.step ⟨1,f.backend,f.serving,f.tries.toNat⟩ o')=⟨2,f.backend,f.serving,f.tries.toNat⟩:=by
   have k1:o'.kind=o.kind:=by rw[hoo]
   have k2:o'.why=o.why:=by rw[hoo]
   unfold Fs.step
   rw[k1,k2]
   rcases ho with e | ⟨e,h1,h2⟩
   ·simp[e]
   ·simp[e]
    cases hs:f.serving with
    | true => have:=h1 hs;simp;omega
    | false => have:=h2 hs;simp[this]
  rw[hst]
  refine ⟨fun x hx hc => hnone x hx hc.1,⟨hfl.1,by simpa using hfl.2.1,hfl.2.2.2.1,?_⟩,rfl,?_⟩
  ·rw[getD_set,if_pos (by omega)];show f.gen < f.gen + 1;omega
  ·have:=htr.1;have:=htr.2.1
   show ((f.tries.toNat:Nat):Int) ≤ g.c.c8
   omega
 ·have e1:ofH slot gen o'=false:=ofH_other (by rw[hoo];exact e)
  rw[e1]
  simp only[Bool.false_eq_true,if_false]
  rcases hh with ⟨x,hx,h1,h2,h3⟩ | ⟨h1,h2,h3,h4⟩ | ⟨h1,h2,h3⟩
  ·left
   refine ⟨x,?_,h1,h2,h3⟩
   obtain ⟨j,hj⟩:=zF hx
   obtain ⟨j1,rfl⟩:=zB.1 hj
   refine erase_mem j1 fun hji => e ?_
   subst hji
   rw[hff]
   exact ⟨h1,h2⟩
  ·right;left
   refine ⟨fun x hx => h1 x (List.mem_of_mem_eraseIdx hx),?_,h3,h4⟩
   rw[List.length_set,getD_set]
   split
   ·rename_i hc
    have:slot=f.slot:=by omega
    rw[this,hfl.2.2.1] at h2
    exact ⟨by omega,by omega,h2.2.2.1,by show gen < f.gen + 1;have:=h2.2.2.2;simp at this;omega⟩
   ·exact h2
  ·right;right
   refine ⟨fun x hx => h1 x (List.mem_of_mem_eraseIdx hx),?_,h3⟩
   rw[List.length_set,getD_set]
   split
   ·rename_i hc
    rintro ⟨q1,q2,q3,q4⟩
    have:slot=f.slot:=by omega
    rw[this,hfl.2.2.1] at h2
    have q4:gen < f.gen + 1:=q4
    exact h2 ⟨by omega,by omega,q3,by show gen < f.gen;have:f.gen ≠ gen:=fun e2 => e ⟨by omega,e2⟩;omega⟩
   ·exact h2
theorem set_all {fl:List Flw} {i:Nat} (hi:i < fl.length) {f x:Flw} (hx:x ∈ fl.set i f):x=f ∨ ∃ j,∃ h:j < fl.length,j ≠ i ∧ fl[j]=x:=by
 obtain ⟨j,hj⟩:=zF hx
 obtain ⟨j1,j2⟩:=zB.1 hj
 rw[List.getElem_set] at j2
 split at j2
 ·exact .inl j2.symm
 ·rename_i hne
  simp only[List.length_set] at j1
  exact .inr ⟨j,j1,fun e => hne e.symm,j2⟩
theorem set_has {fl:List Flw} {i:Nat} (hi:i < fl.length) (f:Flw):f ∈ fl.set i f:=zD (i:=i) (by rw[List.getElem?_set];simp[hi])
theorem set_keep {fl:List Flw} {i j:Nat} (hj:j < fl.length) (hne:j ≠ i) (f:Flw):fl[j] ∈ fl.set i f:=zD (i:=j) (by rw[List.getElem?_set,if_neg (by omega),zE hj])
theorem LI.upd {pre:List Outp} {g g':Gt} (h:LI pre g) (hs:FlT g.tb g.fl) {i:Nat} (hi:i < g.fl.length) {f:Flw} (e1:f.slot=g.fl[i].slot) (e2:f.gen=g.fl[i].gen)
  (hf:g'.fl=g.fl.set i f) (hl:g'.tb.length=g.tb.length) (ht:∀ s,(g'.tb.getD s tzero).gen=(g.tb.getD s tzero).gen) (hc:g'.c=g.c)
  (ho:(g'.out=g.out ∧ f.backend=g.fl[i].backend ∧ f.serving=g.fl[i].serving ∧ f.tries=g.fl[i].tries) ∨
   ∃ o,g'.out=g.out ++ [o] ∧ o.slot=f.slot ∧ o.gen=f.gen ∧ isFl o=true ∧ Fs.step ⟨1,g.fl[i].backend,g.fl[i].serving,g.fl[i].tries.toNat⟩ o=⟨1,f.backend,f.serving,f.tries.toNat⟩):LI pre g':=by
 have hmem:=List.getElem_mem hi
 have hlv:=h.live hmem hs
 intro slot gen
 have hh:=h slot gen
 have hmemf:∀ x,(∃ y ∈ g'.fl,y.slot=slot ∧ y.gen=gen ∧ y=x) → True:=fun _ _ => trivial
 unfold HOk
 rw[hf,hl,ht,hc]
 by_cases e:g.fl[i].slot=slot ∧ g.fl[i].gen=gen
 ·obtain ⟨rfl,rfl⟩:=e
  left
  refine ⟨f,set_has hi f,e1,e2,?_⟩
  rcases ho with ⟨h1,h2,h3,h4⟩ | ⟨o,h1,h2,h3,h4,h5⟩
  ·rw[h1,hlv,h2,h3,h4]
  ·have e5:ofH g.fl[i].slot g.fl[i].gen o=true:=by
    have:=ofH_self h4
    rwa [h2,h3,e1,e2] at this
   rw[h1,← List.append_assoc,fsOf_snoc,if_pos e5,hlv,h5]
 ·have hfs:fsOf (pre ++ g'.out) slot gen=fsOf (pre ++ g.out) slot gen:=by
   rcases ho with ⟨h1,_⟩ | ⟨o,h1,h2,h3,_⟩
   ·rw[h1]
   ·rw[h1,← List.append_assoc,fsOf_snoc,ofH_other (by rw[h2,h3,e1,e2];exact e)];simp
  rw[hfs]
  have hno:(∀ x ∈ g.fl,¬ (x.slot=slot ∧ x.gen=gen)) → ∀ x ∈ g.fl.set i f,¬ (x.slot=slot ∧ x.gen=gen):=fun h1 x hx => by
   rcases set_all hi hx with rfl | ⟨j,hj,_,rfl⟩
   ·rw[e1,e2];exact e
   ·exact h1 _ (List.getElem_mem hj)
  rcases hh with ⟨x,hx,h1,h2,h3⟩ | ⟨h1,h2,h3⟩ | ⟨h1,h2,h3⟩
  ·left
   obtain ⟨j,hj⟩:=zF hx
   obtain ⟨j1,rfl⟩:=zB.1 hj
   exact ⟨_,set_keep j1 (fun hji => e (by subst hji;exact ⟨h1,h2⟩)) f,h1,h2,h3⟩
  ·exact .inr (.inl ⟨hno h1,h2,h3⟩)
  ·exact .inr (.inr ⟨hno h1,h2,h3⟩)
theorem LI.dueA {pre:List Outp} {g:Gt} {n:Nat} (h:LI pre g) (hm:Mid g n (-1)) {i:Nat} (hi:i < g.fl.length) (z:Int):LI pre (g.dueA i z):=by
 have hg:=getD_at default hi
 refine h.upd hm.fs hi (f:={ g.fl.getD i default with due:=z }) (by rw[hg]) (by rw[hg]) rfl rfl (fun _ => rfl) rfl (.inl ⟨rfl,?_⟩)
 rw[hg];exact ⟨rfl,rfl,rfl⟩
theorem LI.moved {pre:List Outp} {g:Gt} {n:Nat} (h:LI pre g) (hm:Mid g n (-1)) {i:Nat} (hi:i < g.fl.length) (b tok:Int) (hsv:(g.fl.getD i default).serving=false):LI pre (g.moved i b tok):=by
 have hg:=getD_at default hi
 have hfl:=hm.flow (List.getElem_mem hi)
 have htr:=hm.fe _ (List.getElem_mem hi)
 rw[hg] at hsv
 refine h.upd hm.fs hi (f:={ g.fl.getD i default with backend:=b,tries:=(g.fl.getD i default).tries + 1,due:=g.now + g.c.c7 }) (by rw[hg]) (by rw[hg]) rfl (by simp[Gt.moved]) (fun s => ?_) rfl
  (.inr ⟨_,rfl,rfl,rfl,by simp[isFl],?_⟩)
 ·show ((g.tb.set (g.fl.getD i default).slot.toNat _).getD s tzero).gen=_
  rw[hg,getD_set]
  split
  ·rename_i hc
   rw[hc.1,hfl.2.2.1]
  ·rfl
 ·rw[hg]
  have h1:=htr.1
  have e1:(g.fl[i].tries + 1).toNat=g.fl[i].tries.toNat + 1:=by omega
  simp[Fs.step,hsv,e1]
theorem LI.taken {pre:List Outp} {g:Gt} {n:Nat} (h:LI pre g) (hm:Mid g n (-1)) {s:Nat} (hs:s < g.tb.length) (hfree:tfree (g.tb.getD s tzero)=true) (key b:Int):LI pre (g.taken s key b):=by
 unfold tfree at hfree
 rw[Bool.and_eq_true] at hfree
 have hus:(g.tb.getD s tzero).used=false:=by simpa using hfree.1
 have hok:=hm.tok.2.2 _ (getD_mem (l:=g.tb) tzero hs)
 have hno:∀ x ∈ g.fl,x.slot ≠ (s:Int):=fun x hx e2 => by
  have h1:=hm.fs.at_ x hx
  have:x.slot.toNat=s:=by rw[e2];simp
  rw[this] at h1
  rw[h1.2.2] at hus
  cases hus
 intro slot gen
 have hh:=h slot gen
 unfold Gt.taken HOk
 simp only
 rw[← List.append_assoc,fsOf_snoc,List.length_set]
 have hgen:∀ k,((g.tb.set s ⟨(g.tb.getD s tzero).gen,true,key,b⟩).getD k tzero).gen=(g.tb.getD k tzero).gen:=fun k => by
  rw[getD_set]
  split
  ·rename_i hc;rw[hc.1]
  ·rfl
 rw[hgen]
 by_cases e:(s:Int)=slot ∧ (g.tb.getD s tzero).gen=gen
 ·obtain ⟨rfl,rfl⟩:=e
  left
  refine ⟨_,insF_mem.2 (.inl rfl),rfl,rfl,?_⟩
  rw[if_pos (by simp[ofH,isFl])]
  rcases hh with ⟨x,hx,h1,_⟩ | ⟨_,h2,_⟩ | ⟨_,_,h3⟩
  ·exact absurd h1 (hno x hx)
  ·rw[Int.toNat_natCast] at h2;omega
  ·rw[h3];simp[Fs.step,fs0]
 ·rw[ofH_other (o:=⟨1,s,(g.tb.getD s tzero).gen,b,0,0,0⟩) e]
  simp only[Bool.false_eq_true,if_false]
  have hno2:(∀ x ∈ g.fl,¬ (x.slot=slot ∧ x.gen=gen)) → ∀ x ∈ insF g.fl ⟨s,(g.tb.getD s tzero).gen,key,b,false,0,g.now + g.c.c7⟩,¬ (x.slot=slot ∧ x.gen=gen):=fun h1 x hx => by
   rcases insF_mem.1 hx with rfl | hx
   ·exact e
   ·exact h1 x hx
  rcases hh with ⟨x,hx,h1,h2,h3⟩ | ⟨h1,h2,h3⟩ | ⟨h1,h2,h3⟩
  ·exact .inl ⟨x,insF_mem.2 (.inr hx),h1,h2,h3⟩
  ·exact .inr (.inl ⟨hno2 h1,h2,h3⟩)
  ·exact .inr (.inr ⟨hno2 h1,h2,h3⟩)
theorem LI.failed {pre:List Outp} {g:Gt} {n:Nat} (h:LI pre g) (hm:Mid g n (-1)) {i:Nat} (hi:i < g.fl.length) {why:Int} (hw:why ≠ 1) (hsv:(g.fl.getD i default).serving=false):LI pre (g.failed i why):=by
 have hb:=hm.flow (List.getElem_mem hi)
 have hg:=getD_at default hi
 have hn:=hm.note (g.fl.getD i default).backend (by rw[hg];omega) true
 have hln:=h.note (g.fl.getD i default).backend true
 have hd:∀ w,w ≠ 1 → LI pre ((g.note (g.fl.getD i default).backend true).drop i (resetO w)):=fun w hw => hln.drop hn hi (.inr ⟨rfl,(fun h2 => absurd (hsv.symm.trans h2) (by simp)),fun _ => hw⟩)
 unfold Gt.failed
 simp only
 split
 ·exact hd _ hw
 ·split
  ·exact hd _ (by omega)
  ·split
   ·exact (hln.moved hn hi _ _ hsv).spared _
   ·exact hln.moved hn hi _ _ hsv
theorem LI.off1 {pre:List Outp} {g:Gt} {n:Nat} (h:LI pre g) (hm:Mid g n (-1)) {f0:Flw} (hf0:f0 ∈ g.fl):LI pre (g.off1 f0.slot):=by
 obtain ⟨hi,he,_,hgd⟩:=find_mem hm.fs.so hf0
 unfold Gt.off1
 simp only
 split
 ·rename_i hs
  exact h.drop hm hi (.inr ⟨rfl,fun _ => .inl rfl,fun h2 => by rw[hs] at h2;cases h2⟩)
 ·rename_i hs
  exact h.failed hm hi (by omega) (by simpa using hs)
theorem LI.offs {pre:List Outp}:∀ (l:List Int) {g:Gt} {n:Nat},LI pre g → Mid g n (-1) → l.Nodup → (∀ s ∈ l,∃ f ∈ g.fl,f.slot=s) → LI pre (g.offs l)
 | [],g,n,h,_,_,_ => h
 | s :: l,g,n,h,hm,hnd,hs => by
  obtain ⟨f0,hf0,rfl⟩:=hs s (by simp)
  obtain ⟨h1,h2,h3,h4⟩:=off1_same hm hf0
  obtain ⟨n1,n2⟩:=List.nodup_cons.1 hnd
  exact LI.offs l (h.off1 hm hf0) h1 n2 fun s hs2 => by
   obtain ⟨f,hf,e⟩:=hs s (List.mem_cons_of_mem _ hs2)
   refine ⟨f,h4 f hf fun e2 => n1 ?_,e⟩
   rw[← e2,e];exact hs2
theorem LI.cut1 {pre:List Outp}:∀ (l:List Hnd) {g:Gt} {n:Nat},LI pre g → Mid g n (-1) → (l.map (·.1)).Nodup → (∀ h ∈ l,∃ f ∈ g.fl,f.slot=h.1) → LI pre (g.cut1 l)
 | [],g,n,h,_,_,_ => h
 | s :: l,g,n,h,hm,hnd,hs => by
  obtain ⟨f0,hf0,e0⟩:=hs s (by simp)
  obtain ⟨hi,he,_,hgd⟩:=find_mem hm.fs.so hf0
  rw[e0] at hi
  obtain ⟨h1,h2⟩:=drop_same hm hi (resetO 2)
  have hd:=hm.drop hi (resetO 2)
  rw[List.map_cons] at hnd
  obtain ⟨n1,n2⟩:=List.nodup_cons.1 hnd
  have hgs:(g.fl.getD (findF g.fl s.1).toNat default).slot=s.1:=by rw[← e0,hgd]
  exact LI.cut1 l (h.drop hm hi (.inr ⟨rfl,fun _ => .inr rfl,fun _ => by show (2:Int) ≠ 1;omega⟩)) hd n2 fun s2 hs2 => by
   obtain ⟨f,hf,e⟩:=hs s2 (List.mem_cons_of_mem _ hs2)
   exact ⟨f,(h2 f).2 ⟨hf,fun e2 => n1 (List.mem_map.2 ⟨s2,hs2,by omega⟩)⟩,e⟩
theorem ofL_flows {g:Gt} {n:Nat} (h:Mid g n (-1)) (b:Int):∀ s ∈ ofL g.tb b,∃ f ∈ g.fl,f.slot=s.1:=fun s hs => by
 obtain ⟨q1,q2,q3,q4⟩:=ofL_mem.1 hs
 exact h.fs.al s.1 q1 q2
theorem cut1_mid {g:Gt} {n:Nat} (h:Mid g n (-1)) (b:Int):Mid (g.cut1 (ofL g.tb b)) n (-1):=by
 refine (cut1_same b (ofL g.tb b) h (ofL_nodup _ _) (ofL_flows h b) fun f hf hb => ?_).1
 obtain ⟨q1,q2,q3⟩:=h.fs.at_ f hf
 exact ⟨(f.slot.toNat,f.gen),ofL_mem.2 ⟨by show f.slot.toNat < _;omega,by show (g.tb.getD f.slot.toNat tzero).used=true;rw[q3],by show (g.tb.getD f.slot.toNat tzero).backend=_;rw[q3];exact hb,by show (g.tb.getD f.slot.toNat tzero).gen=_;rw[q3]⟩,by show f.slot=(f.slot.toNat:Int);omega⟩
theorem LI.cuts {pre:List Outp}:∀ (l:List Lif) {g:Gt} {n:Nat},LI pre g → Mid g n (-1) → LI pre (g.cuts l)
 | [],g,n,h,_ => h
 | x :: l,g,n,h,hm => by
  unfold Gt.cuts
  split
  ·exact LI.cuts l h hm
  ·exact LI.cuts l (h.cut1 _ hm (ofL_nodup _ _) (ofL_flows hm _)) (cut1_mid hm _)
theorem off_flows {g:Gt} {n:Nat} (hm:Mid g n (-1)):(offM g).Nodup ∧ ∀ s,s ∈ offM g ↔ ∃ f ∈ g.fl,f.due=g.now + 1 ∧ f.slot=s:=by
 refine ⟨(hm.wh.ids).sublist (List.filter_sublist.map _),fun s => ?_⟩
 unfold offM
 rw[List.mem_map]
 constructor
 ·rintro ⟨t,ht,rfl⟩
  obtain ⟨h1,h2⟩:=List.mem_filter.1 ht
  obtain ⟨f,hf,_,rfl⟩:=(hm.tt t).1 h1
  rw[hm.wn] at h2
  exact ⟨f,hf,by simpa using h2,rfl⟩
 ·rintro ⟨f,hf,h1,rfl⟩
  refine ⟨(f.due,f.slot),List.mem_filter.2 ⟨(hm.tt _).2 ⟨f,hf,by omega,rfl⟩,by rw[hm.wn];simp[h1]⟩,rfl⟩
theorem Rest.offed {g:Gt} {n:Nat} (h:Rest g n) (hn:n + 1 ≤ 1000000):Mid (g.tick0.offs (offM g)) (n + 1) (-1) ∧ Same g.tick0 (g.tick0.offs (offM g)) ∧ ∀ f ∈ (g.tick0.offs (offM g)).fl,g.now + 1 < f.due:=by
 obtain ⟨hnd,hoff⟩:=off_flows h.mid
 exact offs_same (offM g) (g:=g.tick0) (h.tick0 hn) hnd (fun s hs => by
  obtain ⟨f,hf,_,e⟩:=(hoff s).1 hs
  exact ⟨f,hf,e⟩) (fun f hf => by
  have:=h.late f hf
  rcases Int.lt_or_le (g.now + 1) f.due with h5 | h5
  ·exact .inl h5
  ·exact .inr ((hoff _).2 ⟨f,hf,by omega,rfl⟩))
theorem LI.tick {pre:List Outp} {g:Gt} {n:Nat} (h:LI pre g) (hr:Rest g n) (hn:n + 1 ≤ 1000000):LI pre g.tick:=by
 obtain ⟨hnd,hoff⟩:=off_flows hr.mid
 have h0:LI pre g.tick0:=h.keep rfl rfl rfl (.inl rfl)
 unfold Gt.tick
 exact LI.cuts _ (h0.offs (offM g) (hr.tick0 hn) hnd fun s hs => by
  obtain ⟨f,hf,_,e⟩:=(hoff s).1 hs
  exact ⟨f,hf,e⟩) (hr.offed hn).1
theorem LI.opened {pre:List Outp} {g:Gt} {n:Nat} (h:LI pre g) (hm:Mid g n (-1)) (key:Int):LI pre (g.opened key):=by
 unfold Gt.opened
 split
 ·exact h.put (by simp[isFl])
 ·rename_i hf
  obtain ⟨h1,h2,_⟩:=free_at hf
  split
  ·exact h.put (by simp[isFl])
  ·exact h.taken hm h1 h2 _ _
theorem LI.asked {pre:List Outp} {g:Gt} (h:LI pre g) (e:Evt):LI pre (g.ask e):=by
 unfold Gt.ask
 simp only
 have h1:∀ L R o ws,isFl o=false → LI pre { g with L:=L,R:=R,ws:=ws,out:=g.out ++ [o] }:=fun L R o ws ho => h.keep rfl rfl rfl (.inr ⟨o,rfl,ho⟩)
 split
 ·exact h1 _ _ _ g.ws (by simp[isFl])
 ·split
  ·exact (h1 _ _ _ g.ws (by simp[isFl])).put (by simp[isFl,goneO])
  ·exact (h1 _ _ _ _ (by simp[isFl])).spared _
theorem LI.flowed {pre:List Outp} {g:Gt} {n:Nat} (h:LI pre g) (hm:Mid g n (-1)) (e:Evt):LI pre (g.flow e):=by
 unfold Gt.flow
 split
 ·exact h.put (by simp[isFl])
 ·rename_i hg
  obtain ⟨f,hf,e1,e2⟩:=hm.fs.got (Decidable.not_not.1 hg)
  obtain ⟨hi,he,_,hgd⟩:=find_mem hm.fs.so hf
  simp only
  rw[← e1,← e2]
  have hgi:=getD_at default hi
  rw[hgi] at hgd
  split
  ·exact h.drop hm hi (.inl rfl)
  ·split
   · -- data: one output of a live flow
    have hfwd:∀ g1:Gt,LI pre g1 → FlT g1.tb g1.fl → (∃ f' ∈ g1.fl,f'.slot=f.slot ∧ f'.gen=f.gen) → ∀ b,LI pre (g1.put ⟨3,f.slot,f.gen,b,0,0,0⟩):=fun g1 hl hs ⟨f',hf',e3,e4⟩ b => by
     obtain ⟨j,hj⟩:=zF hf'
     obtain ⟨j1,rfl⟩:=zB.1 hj
     refine hl.upd hs j1 (f:=g1.fl[j]) rfl rfl ?_ rfl (fun _ => rfl) rfl (.inr ⟨_,rfl,e3.symm,e4.symm,by simp[isFl],by simp[Fs.step]⟩)
     exact (List.set_getElem_self _).symm
    split
    ·rename_i hs
     have hd:=h.dueA hm hi (g.now + g.c.c6)
     have h6:=hm.c.w6
     have hmd:=hm.dueA (z:=g.now + g.c.c6) hi (by omega) (by rw[hs];simp)
     exact hfwd _ hd hmd.fs ⟨_,set_has hi _,by rw[hgi,hgd],by rw[hgi,hgd]⟩ _
    ·exact hfwd _ h hm.fs ⟨f,hf,rfl,rfl⟩ _
   ·split
    ·exact h.put (by simp[isFl])
    ·rename_i hs
     have hs:(g.fl.getD (findF g.fl f.slot).toNat default).serving=false:=by simpa using hs
     split
     ·have hsd:=served_due g _ hi (g.fl.getD (findF g.fl f.slot).toNat default).backend (g.now + g.c.c6) false
      refine h.upd hm.fs hi (f:={ g.fl.getD (findF g.fl f.slot).toNat default with serving:=true,due:=g.now + g.c.c6 }) (by rw[hgi]) (by rw[hgi]) hsd.1 rfl (fun _ => rfl) rfl (.inr ⟨_,rfl,?_,?_,by simp[isFl],?_⟩)
      ·show f.slot=_;rw[hgi,hgd]
      ·show f.gen=_;rw[hgi,hgd]
      ·rw[hgi] at hs ⊢
       simp[Fs.step,hs]
     ·exact h.failed hm hi (by omega) hs
theorem LI.step {pre:List Outp} {g:Gt} {n:Nat} (h:LI pre g) (hr:Rest g n) (e:Evt) (hn:n + 1 ≤ 1000000):LI pre (g.step e):=by
 unfold Gt.step
 split
 ·exact h.opened hr.mid _
 ·split
  ·exact h.asked e
  ·split
   ·exact h.tick hr hn
   ·exact h.flowed hr.mid e
theorem LI.begin (c:Cfg):LI [] (begM c):=by
 intro slot gen
 refine .inr (.inr ⟨by simp[begM],?_,rfl⟩)
 rintro ⟨h1,h2,h3,h4⟩
 have:((begM c).tb.getD slot.toNat tzero)=tzero:=by
  show (List.replicate c.slots.toNat tzero).getD _ _=_
  rw[zC,List.getElem?_replicate];split <;> rfl
 rw[this] at h4
 simp[tzero] at h4
 omega
def flowsM (fl:List Flw) (b:Int):Nat:=fl.countP fun f => decide (f.backend=b)
def kN (k:Int) (l:List Outp):Nat:=l.countP fun o => decide (o.kind=k)
theorem kN_app (k:Int) (a b:List Outp):kN k (a ++ b)=kN k a + kN k b:=List.countP_append ..
structure OOk (o:Outp):Prop where
 k0:1 ≤ o.kind
 k1:o.kind ≤ 10
 w0:0 ≤ o.why
 w1:o.why ≤ 5
 s0:0 ≤ o.slot
 s1:o.slot < 40
 g0:0 ≤ o.gen
 g1:o.gen ≤ 1048576
 b0:0 ≤ o.backend
 b1:o.backend < 12
structure Mv (g g':Gt) (l:List Outp):Prop where
 out:g'.out=g.out ++ l
 now:g'.now=g.now
 c:g'.c=g.c
 R:g'.R=g.R
 ws:g'.ws=g.ws
 wn:g'.wn=g.wn
 len:g'.fl.length + kN 6 l + kN 7 l=g.fl.length
 tok:g'.tok=g.tok - g.c.bud.den * (kN 5 l:Nat)
 kd:∀ o ∈ l,o.kind ≠ 1
 ag:∀ o ∈ l,o.kind=5 → stateM g.L o.backend=2
 st:∀ b,stateM g'.L b=stateM g.L b ∨ (stateM g.L b=3 ∧ stateM g'.L b=4)
 fw:∀ b,stateM g.L b ≠ 2 → flowsM g'.fl b ≤ flowsM g.fl b
 ok:∀ o ∈ l,OOk o
theorem Mv.refl (g:Gt):Mv g g []:=⟨by simp,rfl,rfl,rfl,rfl,rfl,by simp[kN],by simp[kN],by simp,by simp,fun b => .inl rfl,fun b _ => Nat.le_refl _,by simp⟩
theorem Mv.trans {a b c:Gt} {l m:List Outp} (h:Mv a b l) (h':Mv b c m):Mv a c (l ++ m):=by
 refine ⟨by rw[h'.out,h.out,List.append_assoc],h'.now.trans h.now,h'.c.trans h.c,h'.R.trans h.R,h'.ws.trans h.ws,h'.wn.trans h.wn,?_,?_,?_,?_,?_,?_,fun o ho => (List.mem_append.1 ho).elim (h.ok o) (h'.ok o)⟩
 ·have:=h.len;have:=h'.len
  rw[kN_app,kN_app];omega
 ·rw[h'.tok,h.tok,h.c,kN_app]
  generalize a.c.bud.den=d
  have:((kN 5 l + kN 5 m:Nat):Int)=(kN 5 l:Nat) + (kN 5 m:Nat):=by omega
  rw[this,Int.mul_add];omega
 ·intro o ho
  rcases List.mem_append.1 ho with ho | ho
  ·exact h.kd o ho
  ·exact h'.kd o ho
 ·intro o ho hk
  rcases List.mem_append.1 ho with ho | ho
  ·exact h.ag o ho hk
  ·have:=h'.ag o ho hk
   rcases h.st o.backend with h1 | h1
   ·rw[h1] at this;exact this
   ·omega
 ·intro x
  rcases h.st x with h1 | h1
  ·rcases h'.st x with h2 | h2
   ·exact .inl (h2.trans h1)
   ·exact .inr ⟨by omega,h2.2⟩
  ·rcases h'.st x with h2 | h2
   ·exact .inr ⟨h1.1,by omega⟩
   ·omega
 ·intro x hx
  refine Nat.le_trans (h'.fw x ?_) (h.fw x hx)
  rcases h.st x with h1 | h1
  ·omega
  ·omega
theorem spared_mv {g:Gt} (hbk:BookOk g.L g.R) (b:Int):∃ l,Mv g (g.spared b) l ∧ (∀ o ∈ l,o.kind=9):=by
 have hs:=hbk.sorted
 unfold Gt.spared
 split
 ·rename_i hc
  obtain ⟨i,hi,hl,hb,he⟩:=finish_set hs hc.1
  have hlo:=hbk.lok _ (List.getElem_mem hi)
  have hlo0:=hlo.b0
  have hlo1:=hlo.b1
  rw[hb] at hlo0 hlo1
  have hls:=life_set hs hi (x:={ lifeM g.L b with state:=4 }) (by rw[hl])
  have hbe:({ lifeM g.L b with state:=4 }:Lif).backend=b:=(congrArg Lif.backend hl).symm.trans hb
  rw[hbe] at hls
  refine ⟨[goneO b (lifeM g.L b).req],⟨rfl,rfl,rfl,rfl,rfl,rfl,by simp[kN,goneO],by simp[kN,goneO],by simp[goneO],by simp[goneO],fun x => ?_,fun x _ => Nat.le_refl _,fun o ho => by rw[List.mem_singleton.1 ho];exact ⟨by simp[goneO],by simp[goneO],by simp[goneO],by simp[goneO],by simp[goneO],by simp[goneO],by simp[goneO],by simp[goneO],hlo0,hlo1⟩⟩,by simp[goneO]⟩
  show stateM (finishM g.L b).1 x=_ ∨ _ ∧ stateM (finishM g.L b).1 x=4
  rw[he]
  unfold stateM
  rw[hls]
  split
  ·rename_i e;rw[e];exact .inr ⟨hc.1,rfl⟩
  ·exact .inl rfl
 ·exact ⟨[],Mv.refl g,by simp⟩
theorem drop_mv {g:Gt} {n:Nat} (h:Mid g n (-1)) {i:Nat} (hi:i < g.fl.length) {o:Outp} (ho:o.kind=6 ∨ o.kind=7) (hw:0 ≤ o.why ∧ o.why ≤ 5):∃ l,l ≠ [] ∧ Mv g (g.drop i o) l:=by
 obtain ⟨l,h1,_⟩:=spared_mv (g:=g.dropA i o) h.bk (g.fl.getD i default).backend
 have hg:=getD_at default hi
 obtain ⟨o',ho'⟩:∃ o':Outp,o'={ o with slot:=(g.fl.getD i default).slot,gen:=(g.fl.getD i default).gen,backend:=(g.fl.getD i default).backend }:=⟨_,rfl⟩
 have hk:o'.kind=o.kind:=by rw[ho']
 have hb:=h.flow (List.getElem_mem hi)
 have h40:=h.tok.2.1
 rw[hg] at ho'
 have h0:Mv g (g.dropA i o) [o']:=by
  refine ⟨by rw[ho',← hg];rfl,rfl,rfl,rfl,rfl,rfl,?_,?_,?_,?_,fun b => .inl rfl,fun b _ => ?_,?_⟩
  ·show (g.fl.eraseIdx i).length + _ + _=_
   rw[List.length_eraseIdx_of_lt hi]
   rcases ho with e | e <;> simp[kN,hk,e] <;> omega
  ·show g.tok=_
   rcases ho with e | e <;> simp[kN,hk,e]
  ·rintro x hx;rw[List.mem_singleton.1 hx,hk];omega
  ·rintro x hx;rw[List.mem_singleton.1 hx,hk];omega
  ·exact (List.eraseIdx_sublist _ _).countP_le
  ·rintro x hx
   rw[List.mem_singleton.1 hx,ho']
   exact ⟨by show 1 ≤ o.kind;omega,by show o.kind ≤ 10;omega,hw.1,hw.2,hb.1,by show g.fl[i].slot < 40;omega,hb.2.2.2.1,by show g.fl[i].gen ≤ _;omega,hb.2.2.2.2.2.2.2.1,hb.2.2.2.2.2.2.2.2⟩
 exact ⟨[o'] ++ l,by simp,h0.trans h1⟩
theorem note_mv (g:Gt) (b:Int) (failed:Bool):Mv g (g.note b failed) []:=⟨by simp[Gt.note],rfl,rfl,rfl,rfl,rfl,by simp[kN,Gt.note],by simp[kN,Gt.note],by simp,by simp,fun b => .inl rfl,fun b _ => Nat.le_refl _,by simp⟩
theorem moved_mv {g:Gt} {n:Nat} (h:Mid g n (-1)) {i:Nat} (hi:i < g.fl.length) {b:Int} (hb:stateM g.L b=2) (hbb:0 ≤ b ∧ b < 12):∃ l,l ≠ [] ∧ Mv g (g.moved i b (g.tok - g.c.bud.den)) l:=by
 refine ⟨[⟨5,(g.fl.getD i default).slot,(g.fl.getD i default).gen,b,0,0,0⟩],by simp,rfl,rfl,rfl,rfl,rfl,rfl,?_,?_,by simp,?_,fun b => .inl rfl,fun x hx => ?_,?_⟩
 ·simp[kN,Gt.moved]
 ·show g.tok - g.c.bud.den=_;simp[kN]
 ·simp[hb]
 ·show flowsM (g.fl.set i _) x ≤ _
  unfold flowsM
  have:=cnt_set (fun f:Flw => decide (f.backend=x)) hi { g.fl.getD i default with backend:=b,tries:=(g.fl.getD i default).tries + 1,due:=g.now + g.c.c7 }
  have hne:b ≠ x:=fun e => hx (e ▸ hb)
  simp only[decide_eq_true_eq,hne,if_false] at this
  split at this <;> omega
 ·have hg:=getD_at default hi
  have hf:=h.flow (List.getElem_mem hi)
  have h40:=h.tok.2.1
  rintro x hx
  rw[List.mem_singleton.1 hx,hg]
  exact ⟨by simp,by simp,by simp,by simp,hf.1,by show g.fl[i].slot < 40;omega,hf.2.2.2.1,by show g.fl[i].gen ≤ _;omega,hbb.1,hbb.2⟩
theorem failed_mv {g:Gt} {n:Nat} (h:Mid g n (-1)) {i:Nat} (hi:i < g.fl.length) {why:Int} (hw:0 ≤ why ∧ why ≤ 5):∃ l,l ≠ [] ∧ Mv g (g.failed i why) l:=by
 have hb:=h.flow (List.getElem_mem hi)
 have hg:=getD_at default hi
 have hn:=h.note (g.fl.getD i default).backend (by rw[hg];omega) true
 have hnm:=note_mv g (g.fl.getD i default).backend true
 unfold Gt.failed
 simp only
 split
 ·obtain ⟨l,h0,h1⟩:=drop_mv hn hi (o:=resetO why) (.inl rfl) hw
  exact ⟨[] ++ l,by simpa using h0,hnm.trans h1⟩
 ·split
  ·obtain ⟨l,h0,h1⟩:=drop_mv hn hi (o:=resetO 4) (.inl rfl) (by simp[resetO])
   exact ⟨[] ++ l,by simpa using h0,hnm.trans h1⟩
  ·rename_i hp
   have hpk:=hn.pickedB (.inr ⟨_,List.getElem_mem hi,by rw[hg]⟩) (Decidable.not_not.1 hp)
   obtain ⟨l,h0,h1⟩:=moved_mv (g:=g.note (g.fl.getD i default).backend true) hn hi hpk.1 hpk.2
   split
   ·obtain ⟨m,h2,_⟩:=spared_mv (g:=(g.note (g.fl.getD i default).backend true).moved i (pickG (g.note (g.fl.getD i default).backend true) (g.fl.getD i default).key (g.fl.getD i default).slot).1 (g.tok - g.c.bud.den)) h.bk (g.fl.getD i default).backend
    exact ⟨[] ++ (l ++ m),by simp[h0],hnm.trans (h1.trans h2)⟩
   ·exact ⟨[] ++ l,by simpa using h0,hnm.trans h1⟩
theorem off1_mv {g:Gt} {n:Nat} (h:Mid g n (-1)) {f0:Flw} (hf0:f0 ∈ g.fl):∃ l,l ≠ [] ∧ Mv g (g.off1 f0.slot) l:=by
 obtain ⟨hi,_,_,_⟩:=find_mem h.fs.so hf0
 unfold Gt.off1
 simp only
 split
 ·exact drop_mv h hi (.inl rfl) (by simp[resetO])
 ·exact failed_mv h hi (by omega)
theorem offs_mv:∀ (l:List Int) {g:Gt} {n:Nat},Mid g n (-1) → l.Nodup → (∀ s ∈ l,∃ f ∈ g.fl,f.slot=s) → ∃ o,(l ≠ [] → o ≠ []) ∧ Mv g (g.offs l) o
 | [],g,n,h,_,_ => ⟨[],fun h => absurd rfl h,Mv.refl g⟩
 | s :: l,g,n,h,hnd,hs => by
  obtain ⟨f0,hf0,rfl⟩:=hs s (by simp)
  obtain ⟨h1,h2,h3,h4⟩:=off1_same h hf0
  obtain ⟨n1,n2⟩:=List.nodup_cons.1 hnd
  obtain ⟨a,ha,hma⟩:=off1_mv h hf0
  obtain ⟨b,_,hmb⟩:=offs_mv l h1 n2 fun s hs2 => by
   obtain ⟨f,hf,e⟩:=hs s (List.mem_cons_of_mem _ hs2)
   refine ⟨f,h4 f hf fun e2 => n1 ?_,e⟩
   rw[← e2,e];exact hs2
  exact ⟨a ++ b,fun _ => by simp[ha],hma.trans hmb⟩
theorem cut1_mv:∀ (l:List Hnd) {g:Gt} {n:Nat},Mid g n (-1) → (l.map (·.1)).Nodup → (∀ h ∈ l,∃ f ∈ g.fl,f.slot=h.1) → ∃ o,(l ≠ [] → o ≠ []) ∧ Mv g (g.cut1 l) o
 | [],g,n,h,_,_ => ⟨[],fun h => absurd rfl h,Mv.refl g⟩
 | s :: l,g,n,h,hnd,hs => by
  obtain ⟨f0,hf0,e0⟩:=hs s (by simp)
  obtain ⟨hi,he,_,hgd⟩:=find_mem h.fs.so hf0
  rw[e0] at hi
  obtain ⟨h1,h2⟩:=drop_same h hi (resetO 2)
  have hgs:(g.fl.getD (findF g.fl s.1).toNat default).slot=s.1:=by rw[← e0,hgd]
  rw[List.map_cons] at hnd
  obtain ⟨n1,n2⟩:=List.nodup_cons.1 hnd
  obtain ⟨a,ha,hma⟩:=drop_mv h hi (o:=resetO 2) (.inl rfl) (by simp[resetO])
  obtain ⟨b,_,hmb⟩:=cut1_mv l (h.drop hi (resetO 2)) n2 fun s2 hs2 => by
   obtain ⟨f,hf,e⟩:=hs s2 (List.mem_cons_of_mem _ hs2)
   exact ⟨f,(h2 f).2 ⟨hf,fun e2 => n1 (List.mem_map.2 ⟨s2,hs2,by omega⟩)⟩,e⟩
  exact ⟨a ++ b,fun _ => by simp[ha],hma.trans hmb⟩
theorem cuts_mv:∀ (l:List Lif) {g:Gt} {n:Nat},Mid g n (-1) → ∃ o,((∃ x ∈ l,x ∈ g.L ∧ x.state=3 ∧ x.til ≤ g.now) → o ≠ []) ∧ ((∀ x ∈ l,x.state=3 → g.now < x.til) → o=[]) ∧ Mv g (g.cuts l) o
 | [],g,n,h => ⟨[],(fun ⟨x,hx,_⟩ => by cases hx),fun _ => rfl,Mv.refl g⟩
 | x :: l,g,n,h => by
  unfold Gt.cuts
  split
  ·rename_i hc
   obtain ⟨o,h1,h2,h3⟩:=cuts_mv l h
   refine ⟨o,fun ⟨y,hy,q1,q2,q3⟩ => h1 ⟨y,?_,q1,q2,q3⟩,fun hh => h2 fun y hy => hh y (List.mem_cons_of_mem _ hy),h3⟩
   rcases List.mem_cons.1 hy with rfl | hy
   ·rcases hc with hc | hc
    ·exact absurd q2 hc
    ·omega
   ·exact hy
  ·rename_i hc
   obtain ⟨a,ha,hma⟩:=cut1_mv (ofL g.tb x.backend) h (ofL_nodup _ _) (ofL_flows h _)
   have hm:=cut1_mid h x.backend
   obtain ⟨o,h1,h2,h3⟩:=cuts_mv l hm
   refine ⟨a ++ o,?_,fun hh => absurd (hh x (by simp)) (fun h9 => hc ?_),hma.trans h3⟩
   ·rintro ⟨y,hy,q1,q2,q3⟩ h9
    obtain ⟨rfl,rfl⟩:=List.append_eq_nil_iff.1 h9
    have hcn:=(h.dr y q1 q2).2.2 (by have:=(h.bk.lok y q1).b0;omega)
    rcases List.mem_cons.1 hy with rfl | hy
    ·exact ha (fun e => by rw[← ofL_len,e] at hcn;exact absurd hcn (by simp)) rfl
    · -- nothing went out,so the life is as it was
     have hce:g.cut1 (ofL g.tb x.backend)=g ∨ ofL g.tb x.backend ≠ []:=by
      by_cases e:ofL g.tb x.backend=[]
      ·left;rw[e];rfl
      ·exact .inr e
     rcases hce with hce | hce
     ·rw[hce] at h1
      exact h1 ⟨y,hy,q1,q2,q3⟩ rfl
     ·exact ha hce rfl
   ·rcases Decidable.em (x.state=3) with e | e
    ·exact .inr (h9 e)
    ·exact .inl e
theorem tick_mv {g:Gt} {n:Nat} (h:Rest g n) (hn:n + 1 ≤ 1000000):∃ o,((∃ f ∈ g.fl,f.due=g.now + 1) ∨ (∃ x ∈ g.L,x.state=3 ∧ x.til=g.now + 1) ↔ o ≠ []) ∧ Mv g.tick0 g.tick o:=by
 obtain ⟨hnd,hoff⟩:=off_flows h.mid
 have h0:=h.tick0 hn
 have hfl:∀ s ∈ offM g,∃ f ∈ g.tick0.fl,f.slot=s:=fun s hs => by
  obtain ⟨f,hf,_,e⟩:=(hoff s).1 hs
  exact ⟨f,hf,e⟩
 obtain ⟨a,ha,hma⟩:=offs_mv (offM g) h0 hnd hfl
 obtain ⟨b,hb1,hb2,hmb⟩:=cuts_mv (g.tick0.offs (offM g)).L (h.offed hn).1
 refine ⟨a ++ b,⟨?_,?_⟩,hma.trans hmb⟩
 ·rintro (⟨f,hf,hd⟩ | ⟨x,hx,h3,ht⟩) h9
  ·obtain ⟨rfl,rfl⟩:=List.append_eq_nil_iff.1 h9
   refine ha (fun e => ?_) rfl
   have:=(hoff f.slot).2 ⟨f,hf,hd,rfl⟩
   rw[e] at this;cases this
  ·obtain ⟨rfl,rfl⟩:=List.append_eq_nil_iff.1 h9
   have e:offM g=[]:=by
    rcases Decidable.em (offM g=[]) with e | e
    ·exact e
    ·exact absurd rfl (ha e)
   have hw:x ∈ (g.tick0.offs (offM g)).L:=by
    rw[e]
    show x ∈ wakeM g.L (g.now + 1)
    exact List.mem_map.2 ⟨x,hx,by unfold wakeX;rw[if_neg (by omega)]⟩
   exact hb1 ⟨x,hw,hw,h3,by rw[hma.now];show x.til ≤ g.now + 1;omega⟩ rfl
 ·intro h9
  rcases Decidable.em (offM g=[]) with e | e
  ·right
   have hb:b ≠ []:=fun e2 => by
    have ha0:a=[]:=by
     have:=hma.out
     rw[e] at this
     have h5:g.tick0.out=g.tick0.out ++ a:=this
     simpa using h5
    exact h9 (by rw[ha0,e2];rfl)
   rcases Decidable.em (∃ x ∈ (g.tick0.offs (offM g)).L,x.state=3 ∧ x.til ≤ g.now + 1) with ⟨x,hx,h3,ht⟩ | hno
   ·rw[e] at hx
    have hx:x ∈ wakeM g.L (g.now + 1):=hx
    obtain ⟨y,hy,rfl⟩:=List.mem_map.1 hx
    unfold wakeX at h3 ht
    split at h3
    ·cases h3
    ·rename_i hc
     rw[if_neg hc] at ht
     have:=h.dr y hy h3
     exact ⟨y,hy,h3,by omega⟩
   ·refine absurd (hb2 fun x hx h3 => ?_) hb
    rw[hma.now]
    show g.now + 1 < x.til
    rcases Int.lt_or_le (g.now + 1) x.til with h8 | h8
    ·exact h8
    ·exact absurd ⟨x,hx,h3,h8⟩ hno
  ·left
   obtain ⟨s,l,hsl⟩:=List.exists_cons_of_ne_nil e
   obtain ⟨f,hf,hd,_⟩:=(hoff s).1 (by rw[hsl];simp)
   exact ⟨f,hf,hd⟩
theorem one_mv {g g':Gt} {i:Nat} (hi:i < g.fl.length) {f:Flw} (e:f.backend=g.fl[i].backend) (hf:g'.fl=g.fl.set i f) (hn:g'.now=g.now) (hc:g'.c=g.c) (hR:g'.R=g.R) (hws:g'.ws=g.ws) (hwn:g'.wn=g.wn) (ht:g'.tok=g.tok) (hL:g'.L=g.L)
  {o:Outp} (ho:g'.out=g.out ++ [o]) (hk:o.kind=3 ∨ o.kind=4) (hok:OOk o):Mv g g' [o]:=by
 refine ⟨ho,hn,hc,hR,hws,hwn,?_,?_,?_,?_,fun b => .inl (by rw[hL]),fun b _ => ?_,by simpa using hok⟩
 ·rw[hf,List.length_set]
  rcases hk with h | h <;> simp[kN,h]
 ·rw[ht]
  rcases hk with h | h <;> simp[kN,h]
 ·intro x hx;rw[List.mem_singleton.1 hx];omega
 ·intro x hx;rw[List.mem_singleton.1 hx];omega
 ·rw[hf]
  unfold flowsM
  have:=cnt_set (fun f:Flw => decide (f.backend=b)) hi f
  rw[e] at this
  omega
theorem put_mv (g:Gt) {o:Outp} (hk:o.kind=10 ∨ o.kind=3) (hok:OOk o):Mv g (g.put o) [o]:=by
 refine ⟨rfl,rfl,rfl,rfl,rfl,rfl,?_,?_,?_,?_,fun b => .inl rfl,fun b _ => Nat.le_refl _,by simpa using hok⟩
 ·rcases hk with h | h <;> simp[kN,h,Gt.put]
 ·rcases hk with h | h <;> simp[kN,h,Gt.put]
 ·intro x hx;rw[List.mem_singleton.1 hx];omega
 ·intro x hx;rw[List.mem_singleton.1 hx];omega
theorem flow_mv {g:Gt} {n:Nat} (hm:Mid g n (-1)) (e:Evt):∃ l,Mv g (g.flow e) l:=by
 have hbad:∀ c,OOk ⟨10,0,0,0,0,c,0⟩:=fun c => ⟨by simp,by simp,by simp,by simp,by simp,by simp,by simp,by simp,by simp,by simp⟩
 unfold Gt.flow
 split
 ·exact ⟨_,put_mv g (.inl rfl) (hbad _)⟩
 ·rename_i hg
  obtain ⟨f,hf,e1,e2⟩:=hm.fs.got (Decidable.not_not.1 hg)
  obtain ⟨hi,he,_,hgd⟩:=find_mem hm.fs.so hf
  have hfl:=hm.flow hf
  have h40:=hm.tok.2.1
  have hfo:∀ k:Int,1 ≤ k → k ≤ 10 → OOk ⟨k,f.slot,f.gen,(g.fl.getD (findF g.fl f.slot).toNat default).backend,0,0,0⟩:=fun k k0 k1 => by
   rw[hgd]
   exact ⟨k0,k1,by simp,by simp,hfl.1,by show f.slot < 40;omega,hfl.2.2.2.1,by show f.gen ≤ _;omega,hfl.2.2.2.2.2.2.2.1,hfl.2.2.2.2.2.2.2.2⟩
  simp only
  rw[← e1,← e2]
  have hgi:=getD_at default hi
  split
  ·obtain ⟨l,_,h⟩:=drop_mv hm hi (o:=⟨7,0,0,0,0,0,0⟩) (.inr rfl) (by simp)
   exact ⟨l,h⟩
  ·split
   ·split
    ·refine ⟨[⟨3,f.slot,f.gen,(g.fl.getD (findF g.fl f.slot).toNat default).backend,0,0,0⟩],?_⟩
     refine one_mv hi (f:={ g.fl.getD (findF g.fl f.slot).toNat default with due:=g.now + g.c.c6 }) (by rw[hgi]) ?_ ?_ ?_ ?_ ?_ ?_ ?_ ?_ ?_ (.inl ?_) (hfo 3 (by omega) (by omega)) <;> rfl
    ·exact ⟨_,put_mv g (.inr rfl) (hfo 3 (by omega) (by omega))⟩
   ·split
    ·exact ⟨_,put_mv g (.inl rfl) (hbad _)⟩
    ·split
     ·have hsd:=served_due g _ hi (g.fl.getD (findF g.fl f.slot).toNat default).backend (g.now + g.c.c6) false
      refine ⟨[⟨4,f.slot,f.gen,(g.fl.getD (findF g.fl f.slot).toNat default).backend,0,0,0⟩],?_⟩
      refine one_mv hi (f:={ g.fl.getD (findF g.fl f.slot).toNat default with serving:=true,due:=g.now + g.c.c6 }) (by rw[hgi]) ?_ ?_ ?_ ?_ ?_ ?_ ?_ ?_ ?_ (.inr ?_) (hfo 4 (by omega) (by omega))
      ·exact hsd.1
      all_goals rfl
     ·obtain ⟨l,_,h⟩:=failed_mv hm hi (why:=3) (by omega)
      exact ⟨l,h⟩
inductive Kd4 (g:Gt) (e:Evt) (g':Gt):Prop
 | full:e.kind=1 → freeZ g.tb < 0 → g'=g.put ⟨2,0,0,0,0,9,0⟩ → Kd4 g e g'
 | busy:e.kind=1 → ¬ freeZ g.tb < 0 → (pickG g e.key (-1)).2 ≠ 0 → g'=g.put ⟨2,0,0,0,0,11,0⟩ → Kd4 g e g'
 | taken:e.kind=1 → ¬ freeZ g.tb < 0 → (pickG g e.key (-1)).2=0 → g'=g.taken (freeZ g.tb).toNat e.key (pickG g e.key (-1)).1 → Kd4 g e g'
 | ask:(e.kind=5 ∨ e.kind=6) → g'=g.ask e → Kd4 g e g'
 | tick (o:List Outp):e.kind=7 → g'=g.tick → Mv g.tick0 g' o → ((∃ f ∈ g.fl,f.due=g.now + 1) ∨ (∃ x ∈ g.L,x.state=3 ∧ x.til=g.now + 1) ↔ o ≠ []) → Kd4 g e g'
 | flow (l:List Outp):(e.kind ≠ 1 ∧ e.kind ≠ 5 ∧ e.kind ≠ 6 ∧ e.kind ≠ 7) → g'=g.flow e → Mv g g' l → Kd4 g e g'
theorem step_kd {g:Gt} {n:Nat} (h:Rest g n) (e:Evt) (hn:n + 1 ≤ 1000000):Kd4 g e (g.step e):=by
 unfold Gt.step
 split
 ·rename_i hk
  unfold Gt.opened
  split
  ·exact .full hk (by assumption) rfl
  ·split
   ·exact .busy hk (by assumption) (by assumption) rfl
   ·rename_i h1 h2;exact .taken hk h1 (Decidable.not_not.1 h2) rfl
 ·split
  ·exact .ask (by assumption) rfl
  ·split
   ·obtain ⟨o,h1,h2⟩:=tick_mv h hn
    exact .tick o (by assumption) rfl h2 h1
   ·rename_i h1 h2 h3
    obtain ⟨l,hl⟩:=flow_mv h.mid e
    exact .flow l ⟨h1,fun h => h2 (.inl h),fun h => h2 (.inr h),h3⟩ rfl hl
theorem ask_same {g:Gt} {n:Nat} (h:Mid g n (-1)) {e:Evt} (he:EvtOk e):(g.ask e).fl=g.fl ∧ (g.ask e).tb=g.tb ∧ (g.ask e).tok=g.tok ∧ (g.ask e).c=g.c ∧ (g.ask e).now=g.now ∧ (g.ask e).wn=g.wn ∧ (g.ask e).hl=g.hl ∧
  ∃ l,(g.ask e).out=g.out ++ l ∧ ∀ o ∈ l,o.kind=8 ∨ o.kind=9:=by
 have hbk:=ask_ok h.bk (reqOf e) (reqOf_ok he) g.now g.c.c5 h.n0 (by have:=h.n1;have:=h.nn;omega) (by have:=h.c.w5;omega) h.c.w5.2
 unfold Gt.ask
 simp only
 split
 ·exact ⟨rfl,rfl,rfl,rfl,rfl,rfl,rfl,_,rfl,by simp⟩
 ·split
  ·exact ⟨rfl,rfl,rfl,rfl,rfl,rfl,rfl,[_,_],by simp[Gt.put];exact ⟨rfl,rfl⟩,by simp[goneO]⟩
  ·unfold Gt.spared
   split
   ·exact ⟨rfl,rfl,rfl,rfl,rfl,rfl,rfl,[_,_],by simp;exact ⟨rfl,rfl⟩,by simp[goneO]⟩
   ·exact ⟨rfl,rfl,rfl,rfl,rfl,rfl,rfl,_,rfl,by simp⟩
theorem step_c {g:Gt} {n:Nat} (h:Rest g n) {e:Evt} (he:EvtOk e) (hn:n + 1 ≤ 1000000):(g.step e).c=g.c:=by
 cases step_kd h e hn with
 | full _ _ h => rw[h];rfl
 | busy _ _ _ h => rw[h];rfl
 | taken _ _ _ h => rw[h];rfl
 | ask _ h2 => rw[h2];exact (ask_same h.mid he).2.2.2.1
 | tick o _ h1 h2 => rw[h2.c];rfl
 | flow l _ _ h2 => exact h2.c
theorem kN_ask {l:List Outp} (h:∀ o ∈ l,o.kind=8 ∨ o.kind=9) (k:Int) (hk:k ≠ 8 ∧ k ≠ 9):kN k l=0:=List.countP_eq_zero.2 fun o ho => by have:=h o ho;simp;omega
theorem kN_one {l:List Outp} (h:∀ o ∈ l,o.kind ≠ 1):kN 1 l=0:=List.countP_eq_zero.2 fun o ho => by have:=h o ho;simp;omega
theorem P_outputs {g:Gt} {n:Nat} (h:Rest g n) (h0:g.out=[]) {e:Evt} (he:EvtOk e) (hn:n + 1 ≤ 1000000):(g.step e).fl.length + kN 6 (g.step e).out + kN 7 (g.step e).out=g.fl.length + kN 1 (g.step e).out:=by
 cases step_kd h e hn with
 | full _ _ h => rw[h];simp[Gt.put,kN,h0]
 | busy _ _ _ h => rw[h];simp[Gt.put,kN,h0]
 | taken _ _ _ h => rw[h];simp[Gt.taken,kN,h0,insF_len]
 | ask _ h2 =>
  obtain ⟨a1,a2,a3,a4,a5,_,_,l,a6,a7⟩:=ask_same h.mid he
  rw[h2,a1,a6,h0,List.nil_append,kN_ask a7 6 (by omega),kN_ask a7 7 (by omega),kN_ask a7 1 (by omega)]
 | tick o _ h1 h2 =>
  have e1:(g.step e).out=o:=by rw[h2.out];show g.out ++ o=o;rw[h0];rfl
  rw[e1,kN_one h2.kd]
  exact h2.len
 | flow l _ _ h2 =>
  have e1:(g.step e).out=l:=by rw[h2.out,h0];rfl
  rw[e1,kN_one h2.kd]
  exact h2.len
theorem P_accept {g:Gt} {n:Nat} (h:Rest g n) (h0:g.out=[]) {e:Evt} (he:EvtOk e) (hn:n + 1 ≤ 1000000) {o:Outp} (ho:o ∈ (g.step e).out) (hk:o.kind=1) :
  ∃ s:Nat,∃ hs:s < g.tb.length,∃ x ∈ g.L,o=⟨1,s,(g.tb.getD s tzero).gen,x.backend,0,0,0⟩ ∧ (g.step e).out=[o] ∧ (g.tb.getD s tzero).used=false ∧ (∀ j,j < s → (g.tb.getD j tzero).used=true) ∧
   x.state=2 ∧ isOut g.hl x.backend=false ∧ flowsM (g.step e).fl x.backend=flowsM g.fl x.backend + 1 ∧
   (flowsM g.fl x.backend:Int) + 1 ≤ capZ g.c.num g.c.den g.fl.length (rampM x.weight x.since g.now g.c.c4) (sumW (loadsM g (-1))):=by
 have hs:=step_kd h e hn
 generalize g.step e=g' at ho hs ⊢
 cases hs with
 | full _ _ h => rw[h] at ho;simp[Gt.put,h0] at ho;subst ho;simp at hk
 | busy _ _ _ h => rw[h] at ho;simp[Gt.put,h0] at ho;subst ho;simp at hk
 | taken _ hf hp h2 =>
  obtain ⟨f1,f2,f3⟩:=free_at hf
  rw[h2] at ho ⊢
  have ho:o ∈ g.out ++ [(⟨1,((freeZ g.tb).toNat:Nat),(g.tb.getD (freeZ g.tb).toNat tzero).gen,(pickG g e.key (-1)).1,0,0,0⟩:Outp)]:=ho
  rw[h0,List.nil_append] at ho
  have ho:=List.mem_singleton.1 ho
  subst ho
  obtain ⟨x,hx,q1,e1,e2,q3⟩:=h.mid.picked (.inl (by omega)) hp
  have hus:(g.tb.getD (freeZ g.tb).toNat tzero).used=false:=by
   unfold tfree at f2
   rw[Bool.and_eq_true] at f2
   simpa using f2.1
  refine ⟨(freeZ g.tb).toNat,f1,x,hx,by rw[e1],by rw[show (g.taken (freeZ g.tb).toNat e.key (pickG g e.key (-1)).1).out=g.out ++ [_] from rfl,h0];rfl,hus,fun j hj => ?_,q1,e2,?_,?_⟩
  ·have hfr:=f3 j hj
   have hg:=h.mid.gens _ (getD_mem (l:=g.tb) tzero (j:=j) (by omega))
   have:=h.mid.nn
   cases hu:(g.tb.getD j tzero).used with
   | true => rfl
   | false =>
    rw[hu] at hg
    simp at hg
    have h9:tfree (g.tb.getD j tzero)=true:=by
     unfold tfree;rw[hu];simp;omega
    exact absurd (h9.symm.trans hfr) (by simp)
  ·show flowsM (insF g.fl _) _=_
   unfold flowsM
   rw[insF_cnt,if_pos (by simp[e1])]
  ·have hld:=h.mid.load (but:=-1) (.inl (by omega)) hx
   have hw:(loadOf g (-1) x).weight=rampM x.weight x.since g.now g.c.c4:=by
    show (if isOut g.hl x.backend=true then 0 else _)=_
    rw[e2];simp
   have hfl:(loadOf g (-1) x).flows=(flowsM g.fl x.backend:Int):=by
    show (cntB g.tb x.backend:Int) - _=_
    rw[h.mid.fs.cnt];simp[flowsM]
   unfold capOf at q3
   rw[if_pos (hld.2.2.2.2.1 e2),hw,hfl] at q3
   simp at q3
   omega
 | ask _ h2 =>
  obtain ⟨a1,a2,a3,a4,a5,_,_,l,a6,a7⟩:=ask_same h.mid he
  rw[h2,a6,h0,List.nil_append] at ho
  have:=a7 o ho
  omega
 | tick l h7 h1 h2 =>
  have e1:g'.out=l:=by rw[h2.out];show g.out ++ l=l;rw[h0];rfl
  rw[e1] at ho
  exact absurd hk (h2.kd o ho)
 | flow l _ _ h2 =>
  have e1:g'.out=l:=by rw[h2.out,h0];rfl
  rw[e1] at ho
  exact absurd hk (h2.kd o ho)
theorem step_ok {g:Gt} {n:Nat} (h:Rest g n) (h0:g.out=[]) {e:Evt} (he:EvtOk e) (hn:n + 1 ≤ 1000000):∀ o ∈ (g.step e).out,OOk o:=by
 intro o ho
 have hs:=step_kd h e hn
 generalize g.step e=g' at ho hs
 have hz:∀ k c:Int,1 ≤ k → k ≤ 10 → OOk ⟨k,0,0,0,0,c,0⟩:=fun k c k0 k1 => ⟨k0,k1,by simp,by simp,by simp,by simp,by simp,by simp,by simp,by simp⟩
 have h40:=h.mid.tok.2.1
 cases hs with
 | full _ _ h => rw[h] at ho;simp[Gt.put,h0] at ho;subst ho;exact hz 2 9 (by omega) (by omega)
 | busy _ _ _ h => rw[h] at ho;simp[Gt.put,h0] at ho;subst ho;exact hz 2 11 (by omega) (by omega)
 | taken _ hf hp h2 =>
  obtain ⟨f1,f2,f3⟩:=free_at hf
  rw[h2] at ho
  have ho:o ∈ g.out ++ [(⟨1,((freeZ g.tb).toNat:Nat),(g.tb.getD (freeZ g.tb).toNat tzero).gen,(pickG g e.key (-1)).1,0,0,0⟩:Outp)]:=ho
  rw[h0,List.nil_append] at ho
  have ho:=List.mem_singleton.1 ho
  subst ho
  have hpk:=h.mid.pickedB (.inl (by omega)) hp
  have hg:=h.mid.tok.2.2 _ (getD_mem (l:=g.tb) tzero f1)
  have hg0:=hg.1
  unfold tfree at f2
  rw[Bool.and_eq_true] at f2
  have hg1:(g.tb.getD (freeZ g.tb).toNat tzero).gen < 1048576:=by simpa using f2.2
  exact ⟨by simp,by simp,by simp,by simp,by show (0:Int) ≤ ((freeZ g.tb).toNat:Nat);omega,by show (((freeZ g.tb).toNat:Nat):Int) < 40;omega,hg0,by show (g.tb.getD (freeZ g.tb).toNat tzero).gen ≤ _;omega,hpk.2.1,hpk.2.2⟩
 | ask _ h2 =>
  have hb0:=he.2.2.2.2.2.2.1
  have hb1:=he.2.2.2.2.2.2.2.1
  have h8:∀ r c:Int,OOk ⟨8,0,0,0,r,c,0⟩:=fun r c => ⟨by simp,by simp,by simp,by simp,by simp,by simp,by simp,by simp,by simp,by simp⟩
  have h9:∀ r:Int,OOk (goneO e.backend r):=fun r => ⟨by simp[goneO],by simp[goneO],by simp[goneO],by simp[goneO],by simp[goneO],by simp[goneO],by simp[goneO],by simp[goneO],hb0,hb1⟩
  rw[h2] at ho
  unfold Gt.ask at ho
  simp only[h0,List.nil_append] at ho
  split at ho
  ·rw[List.mem_singleton.1 ho];exact h8 _ _
  ·split at ho
   ·simp only[Gt.put,List.singleton_append,List.mem_cons,List.not_mem_nil,or_false] at ho
    rcases ho with rfl | rfl
    ·exact h8 _ _
    ·exact h9 _
   ·unfold Gt.spared at ho
    split at ho
    ·simp only[List.singleton_append,List.mem_cons,List.not_mem_nil,or_false] at ho
     rcases ho with rfl | rfl
     ·exact h8 _ _
     ·exact h9 _
    ·rw[List.mem_singleton.1 ho];exact h8 _ _
 | tick l h7 h1 h2 =>
  have e1:g'.out=l:=by rw[h2.out];show g.out ++ l=l;rw[h0];rfl
  rw[e1] at ho
  exact h2.ok o ho
 | flow l _ _ h2 =>
  have e1:g'.out=l:=by rw[h2.out,h0];rfl
  rw[e1] at ho
  exact h2.ok o ho
structure Stp where
 ev:Evt
 before:Gt
 after:Gt
 out:List Outp
structure Ply where
 c:Cfg
 steps:List Stp
 last:Gt
 given:List (Int × Int)
def Gt.clean (g:Gt):Gt:={ g with out:=[] }
def accM (l:List Outp):List (Int × Int):=(l.filter fun o => decide (o.kind=1)).map fun o => (o.slot,o.gen)
def Ply.act (p:Ply) (e:Evt):Ply:=⟨p.c,p.steps ++ [⟨e,p.last,(p.last.step e).clean,(p.last.step e).out⟩],(p.last.step e).clean,p.given ++ accM (p.last.step e).out⟩
def evOpen (key:Int):Evt:=⟨1,key,0,0,false,0,0,0⟩
def evData (s g:Int):Evt:=⟨2,0,s,g,false,0,0,0⟩
def evClose (s g:Int):Evt:=⟨3,0,s,g,false,0,0,0⟩
def evAns (s g:Int) (good:Bool):Evt:=⟨4,0,s,g,good,0,0,0⟩
def evJoin (r b w:Int):Evt:=⟨5,0,0,0,false,r,b,w⟩
def evRet (r b:Int):Evt:=⟨6,0,0,0,false,r,b,0⟩
def evTick:Evt:=⟨7,0,0,0,false,0,0,0⟩
def handP (p:Ply) (a b c:Int):Int × Int:=
 if 0 < p.given.length ∧ 0 < pickedZ c 9 then p.given.getD (p.given.length - 1 - (pickedZ a (min (p.given.length:Int) 8)).toNat) (0,0) else (pickedZ a 8,pickedZ b 3)
def eventP (p:Ply) (k a b c:Int):Evt:=
 let h:=handP p a b c
 let n:=pickedZ k 20
 if n < 6 then evOpen (pickedZ a 100) else if n=6 then evData h.1 h.2 else if n=7 then evClose h.1 h.2 else if n < 12 then evAns h.1 h.2 (decide (pickedZ b 2=0))
 else if n < 14 then evJoin (pickedZ a 30) (pickedZ b 5) (1 + pickedZ c 8) else if n=14 then evRet (pickedZ a 30) (pickedZ b 5) else evTick
def eventD (p:Ply) (d:List Int):Evt:=eventP p (d.getD 0 0) (d.getD 1 0) (d.getD 2 0) (d.getD 3 0)
def play0 (c:Cfg):Ply:=⟨c,[],begM c,[]⟩
def play4 (c:Cfg):Ply:=((((play0 c).act (evJoin 1000 0 2)).act (evJoin 1001 1 3)).act (evJoin 1002 2 4)).act evTick
def deedsM (p:Ply) (l:List (List Int)):Ply:=l.foldl (fun p d => p.act (eventD p d)) p
def playedM (c:Cfg) (l:List (List Int)) (most:Nat):Ply:=deedsM (play4 c) (l.take most)
def outsP (p:Ply):List Outp:=(p.steps.map (·.out)).flatten
structure EvIn (e:Evt):Prop where
 ok:EvtOk e
 s0:0 ≤ e.slot
 s1:e.slot ≤ 39
 g0:0 ≤ e.gen
 g1:e.gen ≤ 1048576
structure StpOk (c:Cfg) (s:Stp) (k:Nat):Prop where
 ev:EvIn s.ev
 ex:∃ n,n + 1 ≤ k ∧ Rest s.before n
 kk:k ≤ 1000000
 lo:s.before.out=[]
 cfg:s.before.c=c
 out:s.out=(s.before.step s.ev).out
 after:s.after=(s.before.step s.ev).clean
structure PInv (p:Ply) (k:Nat):Prop where
 rest:Rest p.last k
 lo:p.last.out=[]
 cfg:p.last.c=p.c
 li:LI (outsP p) p.last
 giv:p.given=accM (outsP p)
 sts:∀ s ∈ p.steps,StpOk p.c s k
 cnt:p.last.fl.length + kN 6 (outsP p) + kN 7 (outsP p)=kN 1 (outsP p)
 oks:∀ o ∈ outsP p,OOk o
theorem Rest.step {g:Gt} {n:Nat} (hc:Rest g n) {e:Evt} (he:EvtOk e) (hn:n + 1 ≤ 1000000):Rest (g.step e) (n + 1):=by
 unfold Gt.step
 split
 ·exact hc.opened he.2.2.1 he.2.2.2.1 hn
 ·split
  ·exact (hc.asked he).up hn
  ·split
   ·exact hc.tick hn
   ·exact (hc.flowed e).up hn
theorem outsP_act (p:Ply) (e:Evt):outsP (p.act e)=outsP p ++ (p.last.step e).out:=by simp[outsP,Ply.act]
theorem accM_app (a b:List Outp):accM (a ++ b)=accM a ++ accM b:=by simp[accM]
theorem PInv.act {p:Ply} {k:Nat} (h:PInv p k) {e:Evt} (he:EvIn e) (hk:k + 1 ≤ 1000000):PInv (p.act e) (k + 1):=by
 have hs:=h.rest.step he.ok hk
 have hli:LI (outsP p ++ (p.last.step e).out) (p.last.step e).clean:=by
  have:=LI.step h.li h.rest e hk
  intro slot gen
  have h2:=this slot gen
  unfold HOk Gt.clean at *
  simp only[List.append_nil]
  exact h2
 refine ⟨⟨{ hs.mid with },hs.late,hs.dr⟩,rfl,?_,?_,?_,?_,?_,?_⟩
 ·show (p.last.step e).c=p.c
  rw[step_c h.rest he.ok hk,h.cfg]
 ·rw[outsP_act];exact hli
 ·show p.given ++ accM _=_
  rw[outsP_act,accM_app,h.giv]
 ·intro s hs2
  rcases List.mem_append.1 hs2 with hs2 | hs2
  ·have:=h.sts s hs2
   obtain ⟨n,hn,hr⟩:=this.ex
   exact { this with ex:=⟨n,by omega,hr⟩,kk:=hk }
  ·rw[List.mem_singleton.1 hs2]
   exact ⟨he,⟨k,Nat.le_refl _,h.rest⟩,hk,h.lo,h.cfg,rfl,rfl⟩
 ·have h1:=P_outputs h.rest h.lo he.ok hk
  have h2:=h.cnt
  show (p.last.step e).fl.length + _ + _=_
  rw[outsP_act,kN_app,kN_app,kN_app]
  omega
 ·rw[outsP_act]
  intro o ho
  rcases List.mem_append.1 ho with ho | ho
  ·exact h.oks o ho
  ·exact step_ok h.rest h.lo he.ok hk o ho
theorem play0_inv {c:Cfg} (h:c.Ok):PInv (play0 c) 0:=⟨beg_rest h,rfl,rfl,LI.begin c,rfl,by simp[play0],rfl,by simp[outsP,play0]⟩
theorem join_in {r b w:Int} (r0:0 ≤ r) (r1:r ≤ 1048576) (b0:0 ≤ b) (b1:b < 12) (w0:1 ≤ w) (w1:w ≤ 8):EvIn (evJoin r b w):=
 ⟨⟨by simp[evJoin],by simp[evJoin],by simp[evJoin],by simp[evJoin],r0,r1,b0,b1,fun _ => ⟨w0,w1⟩⟩,by simp[evJoin],by simp[evJoin],by simp[evJoin],by simp[evJoin]⟩
theorem tick_in:EvIn evTick:=⟨⟨by simp[evTick],by simp[evTick],by simp[evTick],by simp[evTick],by simp[evTick],by simp[evTick],by simp[evTick],by simp[evTick],by simp[evTick]⟩,by simp[evTick],by simp[evTick],by simp[evTick],by simp[evTick]⟩
theorem play4_inv {c:Cfg} (h:c.Ok):PInv (play4 c) 4:=
 ((((play0_inv h).act (join_in (by omega) (by omega) (by omega) (by omega) (by omega) (by omega)) (by omega)).act (join_in (by omega) (by omega) (by omega) (by omega) (by omega) (by omega)) (by omega)).act
  (join_in (by omega) (by omega) (by omega) (by omega) (by omega) (by omega)) (by omega)).act tick_in (by omega)
theorem step_ph (s:Fs) (o:Outp):(s.step o).ph ≠ 0:=by
 unfold Fs.step Fs.bad
 repeat' split
 all_goals first | omega | (simp;omega) | simp_all
theorem fold_ph:∀ (l:List Outp) (s:Fs),l ≠ [] → (l.foldl Fs.step s).ph ≠ 0
 | [],s,h => absurd rfl h
 | [o],s,_ => step_ph s o
 | o :: o2 :: l,s,_ => fold_ph (o2 :: l) (s.step o) (by simp)
theorem LI.range {pre:List Outp} {g:Gt} {n:Nat} (h:LI pre g) (hm:Mid g n (-1)) {slot gen:Int} (hp:(fsOf (pre ++ g.out) slot gen).ph ≠ 0):0 ≤ slot ∧ slot < g.tb.length ∧ 0 ≤ gen ∧ gen < 1048576:=by
 rcases h slot gen with ⟨f,hf,rfl,rfl,_⟩ | ⟨_,h2,_⟩ | ⟨_,_,h3⟩
 ·have:=hm.flow hf
  exact ⟨this.1,this.2.1,this.2.2.2.1,this.2.2.2.2.1⟩
 ·have:=hm.gens _ (getD_mem (l:=g.tb) tzero (j:=slot.toNat) (by omega))
  have hnn:=hm.nn
  refine ⟨h2.1,h2.2.1,h2.2.2.1,?_⟩
  have:(g.tb.getD slot.toNat tzero).gen ≤ n:=by split at this <;> omega
  omega
 ·rw[h3] at hp;exact absurd rfl hp
theorem acc_ph {log:List Outp} {o:Outp} (ho:o ∈ log) (hk:o.kind=1):(fsOf log o.slot o.gen).ph ≠ 0:=by
 unfold fsOf
 refine fold_ph _ _ fun h => ?_
 have:o ∈ log.filter (ofH o.slot o.gen):=List.mem_filter.2 ⟨ho,by simp[ofH,isFl,hk]⟩
 rw[h] at this;cases this
theorem PInv.given {p:Ply} {k:Nat} (h:PInv p k) {x:Int × Int} (hx:x ∈ p.given):0 ≤ x.1 ∧ x.1 ≤ 39 ∧ 0 ≤ x.2 ∧ x.2 ≤ 1048576 ∧ (fsOf (outsP p) x.1 x.2).ph ≠ 0:=by
 rw[h.giv] at hx
 obtain ⟨o,ho,rfl⟩:=List.mem_map.1 hx
 obtain ⟨h1,h2⟩:=List.mem_filter.1 ho
 have hp:=acc_ph h1 (by simpa using h2)
 have:=h.li.range h.rest.mid (slot:=o.slot) (gen:=o.gen) (by rw[h.lo,List.append_nil];exact hp)
 have h40:=h.rest.mid.tok.2.1
 exact ⟨this.1,by show o.slot ≤ 39;omega,this.2.2.1,by show o.gen ≤ _;omega,hp⟩
theorem PInv.hand {p:Ply} {k:Nat} (h:PInv p k) (a b c:Int):0 ≤ (handP p a b c).1 ∧ (handP p a b c).1 ≤ 39 ∧ 0 ≤ (handP p a b c).2 ∧ (handP p a b c).2 ≤ 1048576:=by
 unfold handP
 split
 ·rename_i hc
  have hq:=pickedZ_range a (min (p.given.length:Int) 8) (by omega)
  have hm:p.given.getD (p.given.length - 1 - (pickedZ a (min (p.given.length:Int) 8)).toNat) (0,0) ∈ p.given:=getD_mem _ (by omega)
  have:=h.given hm
  exact ⟨this.1,this.2.1,this.2.2.1,this.2.2.2.1⟩
 ·have h1:=pickedZ_range a 8 (by omega)
  have h2:=pickedZ_range b 3 (by omega)
  exact ⟨h1.1,by show pickedZ a 8 ≤ 39;omega,h2.1,by show pickedZ b 3 ≤ _;omega⟩
theorem PInv.event {p:Ply} {k:Nat} (h:PInv p k) (x a b c:Int):EvIn (eventP p x a b c):=by
 obtain ⟨h1,h2,h3,h4⟩:=h.hand a b c
 have q1:=pickedZ_range a 100 (by omega)
 have q2:=pickedZ_range a 30 (by omega)
 have q3:=pickedZ_range b 5 (by omega)
 have q4:=pickedZ_range c 8 (by omega)
 have z:∀ P:Prop,P → P:=fun _ h => h
 unfold eventP
 simp only
 split
 ·exact ⟨⟨by simp[evOpen],by simp[evOpen],q1.1,by show pickedZ a 100 ≤ _;omega,by simp[evOpen],by simp[evOpen],by simp[evOpen],by simp[evOpen],by simp[evOpen]⟩,by simp[evOpen],by simp[evOpen],by simp[evOpen],by simp[evOpen]⟩
 ·split
  ·exact ⟨⟨by simp[evData],by simp[evData],by simp[evData],by simp[evData],by simp[evData],by simp[evData],by simp[evData],by simp[evData],by simp[evData]⟩,h1,h2,h3,h4⟩
  ·split
   ·exact ⟨⟨by simp[evClose],by simp[evClose],by simp[evClose],by simp[evClose],by simp[evClose],by simp[evClose],by simp[evClose],by simp[evClose],by simp[evClose]⟩,h1,h2,h3,h4⟩
   ·split
    ·exact ⟨⟨by simp[evAns],by simp[evAns],by simp[evAns],by simp[evAns],by simp[evAns],by simp[evAns],by simp[evAns],by simp[evAns],by simp[evAns]⟩,h1,h2,h3,h4⟩
    ·split
     ·exact join_in q2.1 (by omega) q3.1 (by omega) (by omega) (by omega)
     ·split
      ·exact ⟨⟨by simp[evRet],by simp[evRet],by simp[evRet],by simp[evRet],q2.1,by show pickedZ a 30 ≤ _;omega,q3.1,by show pickedZ b 5 < 12;omega,by simp[evRet]⟩,by simp[evRet],by simp[evRet],by simp[evRet],by simp[evRet]⟩
      ·exact tick_in
theorem deeds_inv:∀ (l:List (List Int)) {p:Ply} {k:Nat},PInv p k → k + l.length ≤ 1000000 → PInv (deedsM p l) (k + l.length)
 | [],p,k,h,_ => h
 | d :: l,p,k,h,hk => by
  simp only[List.length_cons] at hk
  have:=deeds_inv l (h.act (h.event (d.getD 0 0) (d.getD 1 0) (d.getD 2 0) (d.getD 3 0)) (by omega)) (by omega)
  have e:k + 1 + l.length=k + (l.length + 1):=by omega
  rw[e] at this
  exact this
theorem played_inv {c:Cfg} (h:c.Ok) (l:List (List Int)) (most:Nat) (hm:most ≤ 100):PInv (playedM c l most) (4 + (l.take most).length):=
 deeds_inv _ (play4_inv h) (by rw[List.length_take];omega)
theorem bad_step (s:Fs) (o:Outp) (h:s.ph=3):(s.step o).ph=3:=by
 unfold Fs.step Fs.bad
 rw[if_neg (by omega:¬ s.ph=0),if_pos (by omega:s.ph ≠ 1)]
 split <;> rfl
theorem bad_fold:∀ (l:List Outp) (s:Fs),s.ph=3 → (l.foldl Fs.step s).ph=3
 | [],s,h => h
 | o :: l,s,h => bad_fold l _ (bad_step s o h)
theorem fsOf_pre {a b:List Outp} {slot gen:Int} (h:(fsOf (a ++ b) slot gen).ph ≠ 3):(fsOf a slot gen).ph ≠ 3:=fun h3 => h (by
 unfold fsOf at h3 ⊢
 rw[List.filter_append,List.foldl_append]
 exact bad_fold _ _ h3)
theorem LI.good {pre:List Outp} {g:Gt} (h:LI pre g) (s gn:Int):(fsOf (pre ++ g.out) s gn).ph ≠ 3:=by
 rcases h s gn with ⟨f,_,_,_,h3⟩ | ⟨_,_,h3,_⟩ | ⟨_,_,h3⟩
 ·rw[h3];simp
 ·rw[h3];simp
 ·rw[h3];simp[fs0]
theorem PInv.good {p:Ply} {k:Nat} (h:PInv p k) (s g:Int):(fsOf (outsP p) s g).ph ≠ 3:=by
 have:=h.li.good s g
 rwa [h.lo,List.append_nil] at this
theorem mput_iff {es:List Ent} {ks vs:List Int} {ck:Nat} (k v:List Int):(∃ e ∈ (mput es ks vs ck).1,e.1=k ∧ e.2.1=v) ↔ (k=ks ∧ v=vs) ∨ (k ≠ ks ∧ ∃ e ∈ es,e.1=k ∧ e.2.1=v):=by
 unfold mput
 split
 ·rename_i hex
  obtain ⟨e0,he0,hk0⟩:=hex
  simp only
  constructor
  ·rintro ⟨e,he,h1,h2⟩
   obtain ⟨x,hx,rfl⟩:=List.mem_map.1 he
   by_cases hc:x.1=ks
   ·rw[if_pos hc] at h1 h2;exact .inl ⟨h1.symm,h2.symm⟩
   ·rw[if_neg hc] at h1 h2;exact .inr ⟨fun e => hc (h1.trans e),x,hx,h1,h2⟩
  ·rintro (⟨rfl,rfl⟩ | ⟨hn,e,he,h1,h2⟩)
   ·exact ⟨_,List.mem_map.2 ⟨e0,he0,rfl⟩,by rw[if_pos hk0],by rw[if_pos hk0]⟩
   ·exact ⟨_,List.mem_map.2 ⟨e,he,rfl⟩,by rw[if_neg (by rw[h1];exact hn)];exact h1,by rw[if_neg (by rw[h1];exact hn)];exact h2⟩
 ·rename_i hno
  simp only
  constructor
  ·rintro ⟨e,he,h1,h2⟩
   rcases List.mem_append.1 he with he | he
   ·exact .inr ⟨fun e2 => hno ⟨e,he,h1.trans e2⟩,e,he,h1,h2⟩
   ·rw[List.mem_singleton.1 he] at h1 h2;exact .inl ⟨h1.symm,h2.symm⟩
  ·rintro (⟨rfl,rfl⟩ | ⟨hn,e,he,h1,h2⟩)
   ·exact ⟨_,List.mem_append_right _ (List.mem_singleton.2 rfl),rfl,rfl⟩
   ·exact ⟨e,List.mem_append_left _ he,h1,h2⟩
theorem mdel_iff {es:List Ent} {ks:List Int} (k v:List Int):(∃ e ∈ mdel es ks,e.1=k ∧ e.2.1=v) ↔ k ≠ ks ∧ ∃ e ∈ es,e.1=k ∧ e.2.1=v:=by
 unfold mdel
 constructor
 ·rintro ⟨e,he,h1,h2⟩
  obtain ⟨h3,h4⟩:=List.mem_filter.1 he
  have h4:e.1 ≠ ks:=by simpa using h4
  exact ⟨fun e2 => h4 (h1.trans e2),e,h3,h1,h2⟩
 ·rintro ⟨hn,e,he,h1,h2⟩
  exact ⟨e,List.mem_filter.2 ⟨he,by simpa [h1] using hn⟩,h1,h2⟩
def EInv (log:List Outp) (es:List Ent):Prop:=∀ s g b,(∃ e ∈ es,e.1=[s,g] ∧ e.2.1=[b]) ↔ ((fsOf log s g).ph=1 ∧ (fsOf log s g).b=b)
theorem EInv.step {log:List Outp} {p:List Ent × Nat} (h:EInv log p.1) {o:Outp} (hb:∀ s g,(fsOf (log ++ [o]) s g).ph ≠ 3):EInv (log ++ [o]) (byStep p o).1:=by
 intro s g b
 have hbo:=hb o.slot o.gen
 have hh:=h s g b
 rw[fsOf_snoc] at hbo ⊢
 unfold byStep
 by_cases hkk:isFl o=true
 ·rw[if_pos (ofH_self hkk)] at hbo
  by_cases e:o.slot=s ∧ o.gen=g
  ·obtain ⟨rfl,rfl⟩:=e
   rw[if_pos (ofH_self hkk)]
   generalize hF:fsOf log o.slot o.gen=F at *
   obtain ⟨ph,fb,sv,ag⟩:=F
   unfold Fs.step Fs.bad at hbo ⊢
   simp only at hbo ⊢ hh
   by_cases k1:o.kind=1
   ·rw[if_pos k1] at hbo ⊢
    rw[if_pos (.inl k1),mput_iff]
    by_cases hp:ph=0
    ·rw[if_pos hp];simp[eq_comm]
    ·rw[if_neg hp] at hbo;exact absurd rfl hbo
   ·rw[if_neg k1] at hbo ⊢
    by_cases hp:ph ≠ 1
    ·rw[if_pos hp] at hbo;exact absurd rfl hbo
    ·rw[if_neg hp] at hbo ⊢
     have hp:ph=1:=Decidable.not_not.1 hp
     subst hp
     by_cases k5:o.kind=5
     ·rw[if_pos (.inr k5),mput_iff]
      cases sv
      ·simp[k5,eq_comm]
      ·simp[k5] at hbo
     ·rw[if_neg (by omega)]
      by_cases k67:o.kind=6 ∨ o.kind=7
      ·rw[if_pos k67,mdel_iff]
       have:∀ x:Fs,x.ph ≠ 1 → ((([o.slot,o.gen]:List Int) ≠ [o.slot,o.gen] ∧ ∃ e ∈ p.1,e.1=[o.slot,o.gen] ∧ e.2.1=[b]) ↔ x.ph=1 ∧ x.b=b):=fun x hx => by simp[hx]
       apply this
       rcases k67 with k6 | k7
       ·simp[k6]
        split <;> simp
       ·simp[k7]
      ·rw[if_neg k67]
       have k34:o.kind=3 ∨ o.kind=4:=by simp[isFl] at hkk;omega
       rcases k34 with k3 | k4
       ·simp[k3];simpa using hh
       ·cases sv
        ·simp[k4];simpa using hh
        ·simp[k4] at hbo
  ·rw[ofH_other e]
   simp only[Bool.false_eq_true,if_false]
   have hne:([s,g]:List Int) ≠ [o.slot,o.gen]:=fun h => e (by simp at h;exact ⟨h.1.symm,h.2.symm⟩)
   split
   ·rw[mput_iff,← hh]
    simp[hne]
   ·split
    ·rw[mdel_iff,← hh]
     simp[hne]
    ·exact hh
 ·have hkf:isFl o=false:=by simpa using hkk
  have:ofH s g o=false:=by simp[ofH,hkf]
  rw[this]
  simp only[Bool.false_eq_true,if_false]
  simp[isFl] at hkf
  rw[if_neg (by omega),if_neg (by omega)]
  exact hh
theorem byL_snoc (l:List Outp) (o:Outp):byL (l ++ [o])=byStep (byL l) o:=by unfold byL;rw[List.foldl_append];rfl
theorem EInv.all:∀ (l pre:List Outp),(∀ s g,(fsOf (pre ++ l) s g).ph ≠ 3) → EInv pre (byL pre).1 → EInv (pre ++ l) (byL (pre ++ l)).1
 | [],pre,_,h => by simpa using h
 | o :: l,pre,hb,h => by
  have e:pre ++ o :: l=(pre ++ [o]) ++ l:=by simp
  rw[e] at hb ⊢
  refine EInv.all l (pre ++ [o]) hb ?_
  rw[byL_snoc]
  exact h.step fun s g => fsOf_pre (hb s g)
theorem byL_own:∀ (l:List Outp) (p:List Ent × Nat),(l.filter fun o => decide (o.kind=1 ∨ o.kind=5 ∨ o.kind=6 ∨ o.kind=7)).foldl byStep p=l.foldl byStep p
 | [],p => rfl
 | o :: l,p => by
  rw[List.filter_cons]
  split
  ·exact byL_own l _
  ·rename_i hc
   simp only[decide_eq_true_eq] at hc
   rw[List.foldl_cons,show byStep p o=p by unfold byStep;rw[if_neg (by omega),if_neg (by omega)]]
   exact byL_own l p
def ownO (l:List Outp):List Outp:=l.filter fun o => decide (o.kind=1 ∨ o.kind=5 ∨ o.kind=6 ∨ o.kind=7)
theorem OOk.by_ {o:Outp} (h:OOk o):OutBy o:=by
 obtain ⟨h1,h2,h3,h4,h5,h6,h7,h8,h9,h10⟩:=h
 exact ⟨⟨h1,h2,h3,h4⟩,inT (by omega) (by omega),inT (by omega) (by omega),h9,h10⟩
theorem PInv.by_ {p:Ply} {k:Nat} (h:PInv p k) (b:Int):((byL (ownO (outsP p))).1.countP fun e => decide (e.2.1=[b]))=flowsM p.last.fl b:=by
 have hown:byL (ownO (outsP p))=byL (outsP p):=by unfold byL;exact byL_own _ _
 rw[hown]
 have hE:=EInv.all (outsP p) [] (by simpa using h.good) (fun s g b => by simp[byL,fsOf,fs0])
 rw[List.nil_append] at hE
 have hM:=byL_inv (outsP p) (fun o ho => (h.oks o ho).by_) (outsP p).length (Nat.le_refl _)
 rw[List.take_length] at hM
 generalize (byL (outsP p))=q at hE hM
 have hlive:∀ f ∈ p.last.fl,fsOf (outsP p) f.slot f.gen=⟨1,f.backend,f.serving,f.tries.toNat⟩:=fun f hf => by
  have:=h.li.live hf h.rest.mid.fs
  rwa [h.lo,List.append_nil] at this
 unfold flowsM
 rw[List.countP_eq_length_filter,List.countP_eq_length_filter]
 obtain ⟨K1,hK1⟩:∃ K1,K1=(q.1.filter fun e => decide (e.2.1=[b])).map (·.1):=⟨_,rfl⟩
 obtain ⟨K2,hK2⟩:∃ K2,K2=(p.last.fl.filter fun f => decide (f.backend=b)).map fun f => [f.slot,f.gen]:=⟨_,rfl⟩
 have n1:K1.Nodup:=by rw[hK1];exact hM.keys.sublist (List.filter_sublist.map _)
 have n2:K2.Nodup:=by
  rw[hK2]
  unfold List.Nodup
  rw[List.pairwise_map]
  refine List.Pairwise.imp (fun {x y} hxy e => ?_) (List.Pairwise.filter _ h.rest.mid.fs.so)
  simp at e;omega
 have s1:K1 ⊆ K2:=fun key hk => by
  rw[hK1] at hk
  obtain ⟨e,he,rfl⟩:=List.mem_map.1 hk
  obtain ⟨h1,h2⟩:=List.mem_filter.1 he
  have h2:e.2.1=[b]:=by simpa using h2
  obtain ⟨s,g,h3,_⟩:=(hM.ok e h1).key
  obtain ⟨h4,h5⟩:=(hE s g b).1 ⟨e,h1,h3,h2⟩
  have hli:=h.li s g
  unfold HOk at hli
  rw[h.lo,List.append_nil] at hli
  rcases hli with ⟨f,hf,rfl,rfl,h6⟩ | ⟨_,_,h6,_⟩ | ⟨_,_,h6⟩
  ·rw[h6] at h5
   rw[hK2,h3]
   exact List.mem_map.2 ⟨f,List.mem_filter.2 ⟨hf,by simpa using h5⟩,rfl⟩
  ·omega
  ·rw[h6] at h4;simp[fs0] at h4
 have s2:K2 ⊆ K1:=fun key hk => by
  rw[hK2] at hk
  obtain ⟨f,hf,rfl⟩:=List.mem_map.1 hk
  obtain ⟨h1,h2⟩:=List.mem_filter.1 hf
  have h2:f.backend=b:=by simpa using h2
  have h3:=hlive f h1
  obtain ⟨e,he,h4,h5⟩:=(hE f.slot f.gen b).2 ⟨by rw[h3],by rw[h3];exact h2⟩
  rw[hK1]
  exact List.mem_map.2 ⟨e,List.mem_filter.2 ⟨he,by simp[h5]⟩,h4⟩
 have l1:=List.Nodup.length_le_of_subset n1 s1
 have l2:=List.Nodup.length_le_of_subset n2 s2
 rw[hK1,hK2,List.length_map,List.length_map] at l1 l2
 omega
theorem cnt_kN (l:List Outp) (h:∀ o ∈ l,OutFits o) (j:Nat) (hj:j < 11):cnt l j=(kN j l:Nat):=by
 induction l with
 | nil => rfl
 | cons o l ih =>
  have ho:=h o (by simp)
  have h0:=ho.k0
  have h1:=ho.w0
  have ih:=ih fun x hx => h x (List.mem_cons_of_mem _ hx)
  have e:cnt (o :: l) j=delta o j + cnt l j:=by simp[cnt]
  rw[e,ih]
  unfold kN delta
  rw[List.countP_cons,if_neg (by omega:¬ (o.kind=6 ∧ 11 + o.why.toNat=j))]
  by_cases hk:o.kind=(j:Int)
  ·rw[if_pos (by omega)];simp[hk];omega
  ·rw[if_neg (by omega)];simp[hk]
theorem PInv.live {p:Ply} {k:Nat} (h:PInv p k):liveN (outsP p)=p.last.fl.length:=by
 have hf:∀ o ∈ outsP p,OutFits o:=fun o ho => (h.oks o ho).by_.fits
 unfold liveN
 rw[cnt_kN _ hf 1 (by omega),cnt_kN _ hf 6 (by omega),cnt_kN _ hf 7 (by omega)]
 have:=h.cnt
 show ((kN 1 (outsP p):Nat):Int) - (kN 6 (outsP p):Nat) - (kN 7 (outsP p):Nat)=_
 omega
theorem Rest.cleanS {g:Gt} {n:Nat} (h:Rest g n):Rest g.clean n:=⟨{ h.mid with },h.late,h.dr⟩
theorem Rest.tm_len {g:Gt} {n:Nat} (h:Rest g n):g.tm.length=g.fl.length:=by
 have hw:=h.mid.wh
 have n1:=hw.ids
 have n2:(g.fl.map (·.slot)).Nodup:=by
  unfold List.Nodup
  rw[List.pairwise_map]
  exact List.Pairwise.imp (fun {x y} hxy e => by omega) h.mid.fs.so
 have s1:(g.tm.map (·.2)) ⊆ g.fl.map (·.slot):=fun z hz => by
  obtain ⟨t,ht,rfl⟩:=List.mem_map.1 hz
  obtain ⟨f,hf,_,rfl⟩:=(h.mid.tt t).1 ht
  exact List.mem_map.2 ⟨f,hf,rfl⟩
 have s2:g.fl.map (·.slot) ⊆ g.tm.map (·.2):=fun z hz => by
  obtain ⟨f,hf,rfl⟩:=List.mem_map.1 hz
  exact List.mem_map.2 ⟨(f.due,f.slot),(h.mid.tt _).2 ⟨f,hf,h.late f hf,rfl⟩,rfl⟩
 have l1:=List.Nodup.length_le_of_subset n1 s1
 have l2:=List.Nodup.length_le_of_subset n2 s2
 rw[List.length_map,List.length_map] at l1 l2
 omega
def lenT (v:Int) (tm:List (Int × Int)) (i:Nat):Int:=((((byP tm (plN v)).take i).map List.length).sum:Nat)
theorem lenT_succ (v:Int) (tm:List (Int × Int)) (i:Nat) (h:i < 25):lenT v tm (i + 1)=lenT v tm i + ((tm.filter fun t => decide (plN v t=i)).length:Nat):=by
 unfold lenT
 have hl:i < (byP tm (plN v)).length:=by rw[byP_len];exact h
 rw[List.take_succ_eq_append_getElem hl,List.map_append,List.sum_append]
 have:=byP_get tm (plN v) i h
 rw[getD_at _ hl] at this
 rw[this]
 simp
theorem lenT_all (v:Int) (tm:List (Int × Int)):lenT v tm 25=tm.length:=by
 unfold lenT
 rw[List.take_of_length_le (by rw[byP_len];omega),← List.length_flatten,(byP_flat v tm).length_eq]
theorem lenT_bd (v:Int) (tm:List (Int × Int)) (i:Nat) (h:i ≤ 25):0 ≤ lenT v tm i ∧ lenT v tm i ≤ tm.length:=by
 refine ⟨by unfold lenT;omega,?_⟩
 rw[← lenT_all v tm]
 have:∀ k,i + k ≤ 25 → lenT v tm i ≤ lenT v tm (i + k):=fun k => by
  induction k with
  | zero => intro _;exact Int.le_refl _
  | succ k ih =>
   intro hk
   have h1:=ih (by omega)
   have h2:=lenT_succ v tm (i + k) (by omega)
   have e:i + (k + 1)=i + k + 1:=by omega
   rw[e,h2];omega
 have:=this (25 - i) (by omega)
 rwa [show i + (25 - i)=25 by omega] at this
def usedT (tb:List TSlot) (i:Nat):Int:=((tb.take i).countP (·.used):Nat)
theorem usedT_succ (tb:List TSlot) (i:Nat) (h:i < tb.length):usedT tb (i + 1)=usedT tb i + if tb[i].used=true then 1 else 0:=by
 unfold usedT
 rw[List.take_succ_eq_append_getElem h,List.countP_append]
 cases hu:tb[i].used <;> simp[hu]
theorem usedT_all {tb:List TSlot} {fl:List Flw} (h:FlT tb fl):usedT tb tb.length=fl.length:=by
 unfold usedT;rw[List.take_length,h.used]
theorem life_take (L:List Lif) (hs:SrtL L) (i:Nat) (h:i < L.length) (b:Int):lifeM (L.take (i + 1)) b=if b=L[i].backend then L[i] else lifeM (L.take i) b:=by
 have hs':SrtL (L.take (i + 1)):=hs.sublist (List.take_sublist _ _)
 have hmem:∀ x,x ∈ L.take (i + 1) ↔ x=L[i] ∨ x ∈ L.take i:=fun x => by
  rw[List.take_succ_eq_append_getElem h,List.mem_append,List.mem_singleton]
  exact Or.comm
 have hlt:∀ x ∈ L.take i,x.backend < L[i].backend:=fun x hx => by
  obtain ⟨j,hj⟩:=zF hx
  rw[List.getElem?_take] at hj
  split at hj
  ·obtain ⟨h1,rfl⟩:=zB.1 hj
   exact List.pairwise_iff_getElem.1 hs j i h1 h (by assumption)
  ·cases hj
 refine life_upd (hs.sublist (List.take_sublist i L)) hs' (x0:=L[i]) (fun x => ?_) b
 rw[hmem]
 constructor
 ·rintro (h1 | h1)
  ·exact .inl h1
  ·exact .inr ⟨h1,by have:=hlt x h1;omega⟩
 ·rintro (h1 | ⟨h1,_⟩)
  ·exact .inl h1
  ·exact .inr h1
theorem wsOf_nil:wsOf []=List.replicate 12 0:=by decide
theorem wsOf_take {L:List Lif} (hs:SrtL L) (hb:∀ x ∈ L,LifOk x) (i:Nat) (h:i < L.length) :
  wsOf (L.take (i + 1))=(if L[i].state=2 then (wsOf (L.take i)).set L[i].backend.toNat L[i].weight.toNat else wsOf (L.take i)) ∧ (wsOf (L.take i)).getD L[i].backend.toNat 0=0:=by
 have ho:=hb _ (List.getElem_mem h)
 have hb0:=ho.b0
 have hb1:=ho.b1
 have hlt:∀ x ∈ L.take i,x.backend ≠ L[i].backend:=fun x hx => by
  obtain ⟨j,hj⟩:=zF hx
  rw[List.getElem?_take] at hj
  split at hj
  ·obtain ⟨h1,rfl⟩:=zB.1 hj
   have:=List.pairwise_iff_getElem.1 hs j i h1 h (by assumption)
   omega
  ·cases hj
 have hz:actW (lifeM (L.take i) L[i].backend)=0:=by
  rcases life_cases (L.take i) L[i].backend with ⟨y,hy,e,_⟩ | ⟨_,e⟩
  ·exact absurd e (hlt y hy)
  ·rw[e];rfl
 have hbn:((L[i].backend.toNat:Nat):Int)=L[i].backend:=by omega
 refine ⟨?_,?_⟩
 ·have hl:=life_take L hs i h
  split
  ·rename_i h2
   refine wsOf_set L[i].backend.toNat (fun b hb hne => ?_) _ fun _ => ?_
   ·rw[hl,if_neg (by omega)]
   ·rw[hl,if_pos hbn];simp[actW,h2]
  ·rename_i h2
   refine wsOf_congr fun b hb => ?_
   rw[hl]
   split
   ·rename_i e
    rw[e,hz];simp[actW,h2]
   ·rfl
 ·rw[wsOf_get _ _ (by omega),hbn];exact hz
theorem woken_take {g:Gt} {n:Nat} {ex:Int} (h:Mid g n ex) (i:Nat) (hi:i < (wokenM g.L).length) :
  wokenW (wakeM g.L (g.now + 1)) ((wokenM g.L).take (i + 1)) g.ws=(wokenW (wakeM g.L (g.now + 1)) ((wokenM g.L).take i) g.ws).set (wokenM g.L)[i].toNat (lifeM (wakeM g.L (g.now + 1)) (wokenM g.L)[i]).weight.toNat ∧
  0 ≤ (wokenM g.L)[i] ∧ (wokenM g.L)[i] < 12 ∧ 1 ≤ (lifeM (wakeM g.L (g.now + 1)) (wokenM g.L)[i]).weight ∧ (lifeM (wakeM g.L (g.now + 1)) (wokenM g.L)[i]).weight ≤ 8 ∧
  (wokenW (wakeM g.L (g.now + 1)) ((wokenM g.L).take i) g.ws).getD (wokenM g.L)[i].toNat 0=0:=by
 have happ:∀ (L:List Lif) (a:List Int) (x:Int) (ws:List Nat),wokenW L (a ++ [x]) ws=(wokenW L a ws).set x.toNat (lifeM L x).weight.toNat:=by
  intro L a
  induction a with
  | nil => intro x ws;rfl
  | cons y a ih => intro x ws;exact ih x _
 have hst:stateM g.L (wokenM g.L)[i]=1:=(woken_mem h.bk.sorted _).1 (List.getElem_mem hi)
 obtain ⟨hm,hbk⟩:=state_mem (L:=g.L) (b:=(wokenM g.L)[i]) (by omega)
 have ho:=h.bk.lok _ hm
 have hb0:=ho.b0
 have hb1:=ho.b1
 rw[hbk] at hb0 hb1
 have hlw:(lifeM (wakeM g.L (g.now + 1)) (wokenM g.L)[i]).weight=(lifeM g.L (wokenM g.L)[i]).weight:=by
  rw[wake_life];unfold wakeX;split <;> rfl
 refine ⟨?_,hb0,hb1,by rw[hlw];exact ho.w0,by rw[hlw];exact ho.w1,?_⟩
 ·rw[List.take_succ_eq_append_getElem hi,happ]
 ·have hwl:∀ x ∈ (wokenM g.L).take i,0 ≤ x ∧ x < g.ws.length:=fun x hx => by
   have h1:=(woken_mem h.bk.sorted x).1 (List.mem_of_mem_take hx)
   obtain ⟨m1,m2⟩:=state_mem (L:=g.L) (b:=x) (by omega)
   have m3:=h.bk.lok _ m1
   have:=m3.b0
   have:=m3.b1
   rw[m2] at *
   rw[h.ws];simp[wsOf];omega
  have hnd:(wokenM g.L).Nodup:=by
   unfold wokenM List.Nodup
   rw[List.pairwise_map]
   exact List.Pairwise.imp (fun {x y} hxy e => by omega) (List.Pairwise.filter _ h.bk.sorted)
  have hbn:(((wokenM g.L)[i].toNat:Nat):Int)=(wokenM g.L)[i]:=by omega
  have:=wokenW_get (wakeM g.L (g.now + 1)) (wokenM g.L)[i].toNat ((wokenM g.L).take i) g.ws hwl
  rw[this,hbn,if_neg,h.ws,wsOf_get _ _ (by omega),hbn]
  ·unfold stateM at hst
   simp[actW,hst]
  ·intro hmem
   obtain ⟨j,hj⟩:=zF hmem
   rw[List.getElem?_take] at hj
   split at hj
   ·obtain ⟨h1,h2⟩:=zB.1 hj
    have:=(List.getElem_inj hnd).1 h2
    omega
   ·cases hj
def Gt.cells (g:Gt) (fl hl:D):List D:=
  [I g.c.slots, I g.c.num, I g.c.den, I g.c.tries, I g.c.c4, I g.c.c5, I g.c.c6, I g.c.c7, I g.c.c8, I g.c.c9, I g.c.bud.num, I g.c.bud.den, I g.c.bud.burst, I g.c.wat.window, I g.c.wat.fails, I g.c.wat.hold,
   I g.now, .rows 4 (g.tb.map TSlot.D), fl, .rows 6 (g.L.map Lif.D), .rows 5 (g.R.map Rqs.D), .rows 2 ((ringM g.ws).map spE), hl, I g.tok, I g.wn, .rows 1 (lrT g.wn g.tm)]
def Gt.W (g:Gt):List D:=g.cells (.rows 7 (g.fl.map Flw.D)) (.rows 4 (g.hl.map Hlth.D))
def Gt.P (g:Gt):List D:=g.W ++ [.rows 7 (g.out.map Outp.D)]
def Gt.H (g:Gt) (o:Nat):List (Nat × Ob):=
 [(o,.row 7 (g.out.map Outp.D)),(2,.row 4 (g.hl.map Hlth.D)),(1,.row 7 (g.fl.map Flw.D)),(0,.cells (g.cells (.own 1) (.own 2) ++ [.own o]))]
def Gt.H5 (g:Gt):List (Nat × Ob):=
 [(5,.row 7 (g.out.map Outp.D)),(4,.row 7 (g.fl.map Flw.D)),(2,.row 4 (g.hl.map Hlth.D)),(0,.cells (g.cells (.own 4) (.own 2) ++ [.own 5]))]
def MK (P:Program) (f:FuncId) (ds:List D) (g g':Gt):Prop:=
 HF P f (.ptr 0 0 :: ds) (g.H 3) 4 (fun e H' nx' => e=.tup [] ∧ H'=g'.H 3 ∧ nx'=4)
def MO (P:Program) (f:FuncId) (ds:List D) (g g':Gt):Prop:=
 HF P f (.ptr 0 0 :: ds) (g.H 3) 4 (fun e H' nx' => e=.tup [] ∧ H'=g'.H 4 ∧ nx'=5)
def MF (P:Program) (f:FuncId) (ds:List D) (g g':Gt):Prop:=
 HF P f (.ptr 0 0 :: ds) (g.H 3) 4 (fun e H' nx' => e=.tup [] ∧ H'=g'.H5 ∧ nx'=6)
section
variable {P:Program} {f:FuncId} {ds:List D} {g g':Gt}
theorem MK.of (h:HF P f (.ptr 0 0 :: ds) (g.H 3) 4 (fun e H' _ => e=.tup [] ∧ ∀ p ∈ g'.H 3,hget H' p.1=some p.2)):MK P f ds g g':=
 HF.tidy (by omega) (by simp) (by simp[LtS,LtR]) (by simp[Gt.H,Gt.cells,LtO,LtC]) h
theorem MO.of (h:HF P f (.ptr 0 0 :: ds) (g.H 3) 4 (fun e H' _ => e=.tup [] ∧ ∃ o,hget H' o=some (.row 7 (g'.out.map Outp.D)) ∧ hget H' 2=some (.row 4 (g'.hl.map Hlth.D)) ∧ hget H' 1=some (.row 7 (g'.fl.map Flw.D)) ∧
  hget H' 0=some (.cells (g'.cells (.own 1) (.own 2) ++ [.own o])) ∧ o ≠ 0 ∧ o ≠ 1 ∧ o ≠ 2)):MO P f ds g g':=by
 refine HF.gh h fun B hB d H' nx' hR => ?_
 obtain ⟨rfl,o,h1,h2,h3,h4,h5,h6,h7⟩:=hR
 refine ⟨.tup [],g'.H 4,5,?_,(by simp),rfl,rfl,rfl⟩
 exact Gh.ren [0,1,2,3,o] (by show B.n0 ≤ 5;omega) (fun id hid => by
  have:id=0 ∨ id=1 ∨ id=2 ∨ id=3:=by omega
  rcases this with rfl | rfl | rfl | rfl <;> rfl) (by simp[eget,rnS,rnR,LtS,LtR]) (by simp[Gt.H,Gt.cells,rnO,rnC,LtO,LtC,lget] at h4 ⊢;simp[h1,h2,h3,h4]) (.inl (by simp[Gt.H,lget,h5,h6,h7]))
theorem MF.of (h:HF P f (.ptr 0 0 :: ds) (g.H 3) 4 (fun e H' _ => e=.tup [] ∧ ∃ o k,hget H' o=some (.row 7 (g'.out.map Outp.D)) ∧ hget H' 2=some (.row 4 (g'.hl.map Hlth.D)) ∧ hget H' k=some (.row 7 (g'.fl.map Flw.D)) ∧
  hget H' 0=some (.cells (g'.cells (.own k) (.own 2) ++ [.own o])) ∧ o ≠ 0 ∧ o ≠ 2 ∧ k ≠ 0 ∧ k ≠ 2 ∧ o ≠ k)):MF P f ds g g':=by
 refine HF.gh h fun B hB d H' nx' hR => ?_
 obtain ⟨rfl,o,k,h1,h2,h3,h4,h5,h6,h7,h8,h9⟩:=hR
 refine ⟨.tup [],g'.H5,6,?_,(by simp),rfl,rfl,rfl⟩
 exact Gh.ren [0,1,2,3,k,o] (by show B.n0 ≤ 6;omega) (fun id hid => by
  have:id=0 ∨ id=1 ∨ id=2 ∨ id=3:=by omega
  rcases this with rfl | rfl | rfl | rfl <;> rfl) (by simp[eget,rnS,rnR,LtS,LtR]) (by simp[Gt.H5,Gt.cells,rnO,rnC,LtO,LtC,lget] at h4 ⊢;simp[h1,h2,h3,h4]) (.inl (by simp[Gt.H5,lget,h5,h6,h7,h8,h9]))
end
structure PV (p:Ply) (k:Nat):Prop where
 rest:Rest p.last k
 lo:p.last.out=[]
 cfg:p.last.c=p.c
 gv:∀ x ∈ p.given,0 ≤ x.1 ∧ x.1 ≤ 39 ∧ 0 ≤ x.2 ∧ x.2 ≤ 1048576
 sts:∀ s ∈ p.steps,StpOk p.c s k
theorem PV.act {p:Ply} {k:Nat} (h:PV p k) {e:Evt} (he:EvIn e) (hk:k + 1 ≤ 1000000):PV (p.act e) (k + 1):=by
 have hs:=h.rest.step he.ok hk
 refine ⟨⟨{ hs.mid with },hs.late,hs.dr⟩,rfl,?_,?_,?_⟩
 ·show (p.last.step e).c=p.c
  rw[step_c h.rest he.ok hk,h.cfg]
 ·intro x hx
  rcases List.mem_append.1 hx with hx | hx
  ·exact h.gv x hx
  ·obtain ⟨o,ho,rfl⟩:=List.mem_map.1 hx
   obtain ⟨h1,h2⟩:=List.mem_filter.1 ho
   obtain ⟨s,hsl,y,_,e1,_⟩:=P_accept h.rest h.lo he.ok hk h1 (by simpa using h2)
   have hm:=h.rest.mid
   have hl:=hm.tok.2.1
   have hg:=hm.tok.2.2 _ (getD_mem (l:=p.last.tb) tzero hsl)
   rw[e1]
   refine ⟨by simp,by show (s:Int) ≤ 39;omega,hg.1,?_⟩
   show (p.last.tb.getD s tzero).gen ≤ 1048576
   cases hu:(p.last.tb.getD s tzero).used with
   | false => exact (hg.2.1 hu).1
   | true => have:=(hg.2.2 hu).1;omega
 ·intro s hs2
  rcases List.mem_append.1 hs2 with hs2 | hs2
  ·have:=h.sts s hs2
   obtain ⟨n,hn,hr⟩:=this.ex
   exact { this with ex:=⟨n,by omega,hr⟩,kk:=hk }
  ·rw[List.mem_singleton.1 hs2]
   exact ⟨he,⟨k,Nat.le_refl _,h.rest⟩,hk,h.lo,h.cfg,rfl,rfl⟩
theorem play0_pv {c:Cfg} (h:c.Ok):PV (play0 c) 0:=⟨beg_rest h,rfl,rfl,by simp[play0],by simp[play0]⟩
theorem PV.hand {p:Ply} {k:Nat} (h:PV p k) (a b c:Int):0 ≤ (handP p a b c).1 ∧ (handP p a b c).1 ≤ 39 ∧ 0 ≤ (handP p a b c).2 ∧ (handP p a b c).2 ≤ 1048576:=by
 unfold handP
 split
 ·rename_i hc
  have hq:=pickedZ_range a (min (p.given.length:Int) 8) (by omega)
  exact h.gv _ (getD_mem _ (by omega))
 ·have h1:=pickedZ_range a 8 (by omega)
  have h2:=pickedZ_range b 3 (by omega)
  exact ⟨h1.1,by show pickedZ a 8 ≤ 39;omega,h2.1,by show pickedZ b 3 ≤ _;omega⟩
theorem StpOk.facts {c:Cfg} {s:Stp} {k:Nat} (h:StpOk c s k):∃ n,n + 1 ≤ 1000000 ∧ Rest s.before n ∧ Rest (s.before.step s.ev) (n + 1):=by
 obtain ⟨n,hn,hr⟩:=h.ex
 have:=h.kk
 exact ⟨n,by omega,hr,hr.step h.ev.ok (by omega)⟩
end Go.Proofs.YtibemmkfcjlmpaaGreat
namespace Go.Proofs.YtibemmkfcjlmpaaGreat
open Go.RowKit
attribute [local simp] AK_at acode_seq acode_region acode_draw acode_cond CB_u acode_block acode_loop acode_exit acode_scope acode_ret acode_skip seqQ_n seqQ_e seqQ_r blockQ_n blockQ_e blockQ_r TK_at OK_at SK_at aops_nil aops_cons asch_done asch_one asch_two asch_top astep aop_eq isLoud aloud aloud1 isWrite qv evS strip gof eget hget putO eput herase oks opnds gS afin afin0 binD arith D.cells takeD fillD keep trim envOf Fin aresl aresv resD argOk pickV isP deq deqs boundD slD lenD isT isSl ptrIds chunks mn_min mx_max splice_one splice_more Rbr_at Rfr_at frR frV frC flatC brwR brwV brwC omap leR leV leC leL leVL rnR rnV rnC rnO rho_0 hputs herases rnS LtS LtR LtV LtC LtO lget noV noC flatR flatV rho
attribute [local simp ↓] CB_t CB_f
def nq (q:Int × Int → Bool) (x:Int × Int):Bool:=!q x
theorem df_keep {l ys:List (Int × Int)} {q:Int × Int → Bool} {i j:Nat} (hl:ys.length=l.length) (hij:i < j) (hj:j < l.length) (h1:ys.take i=(l.take j).filter (nq q)) (h2:ys.drop j=l.drop j) (hq:q l[j]=false) :
  (ys.set i l[j]).take (i + 1)=(l.take (j + 1)).filter (nq q) ∧ (ys.set i l[j]).drop (j + 1)=l.drop (j + 1):=by
 constructor
 ·rw[List.take_succ_eq_append_getElem (by simp;omega),List.take_succ_eq_append_getElem hj,List.filter_append,← h1]
  simp[nq,hq,List.take_set_of_le]
 ·rw[List.drop_set_of_lt (by omega)]
  have:=congrArg (List.drop 1) h2
  rwa [List.drop_drop,List.drop_drop] at this
theorem df_drop {l ys:List (Int × Int)} {q:Int × Int → Bool} {i j:Nat} (hj:j < l.length) (h1:ys.take i=(l.take j).filter (nq q)) (h2:ys.drop j=l.drop j) (hq:q l[j]=true) :
  ys.take i=(l.take (j + 1)).filter (nq q) ∧ ys.drop (j + 1)=l.drop (j + 1):=by
 constructor
 ·rw[List.take_succ_eq_append_getElem hj,List.filter_append,← h1]
  simp[nq,hq]
 ·have:=congrArg (List.drop 1) h2
  rwa [List.drop_drop,List.drop_drop] at this
theorem df_at {l ys:List (Int × Int)} {j:Nat} (hj:j < l.length) (hy:j < ys.length) (h2:ys.drop j=l.drop j):ys[j]=l[j]:=by
 rw[List.drop_eq_getElem_cons hy,List.drop_eq_getElem_cons hj] at h2
 exact (List.cons.inj h2).1
theorem df_all {l:List (Int × Int)} {q:Int × Int → Bool} (h:idxZ q l = -1):l.filter (nq q)=l:=
 List.filter_eq_self.2 fun x hx => by
  cases hq:q x with
  | false => simp[nq,hq]
  | true => have:=idxZ_some q l ⟨x,hx,hq⟩;omega
theorem df_start {l:List (Int × Int)} {q:Int × Int → Bool} {i:Nat} (h:idxZ q l=i):l.take i=(l.take (i + 1)).filter (nq q):=by
 obtain ⟨h2,hq,hb⟩:=idxZ_get q l (by omega)
 have e:(idxZ q l).toNat=i:=by omega
 simp only[e] at h2 hq hb
 rw[List.take_succ_eq_append_getElem h2,List.filter_append,List.filter_eq_self.2 fun x hx => ?_]
 ·simp[nq,hq]
 ·obtain ⟨j,hj,rfl⟩:=List.mem_iff_getElem.1 hx
  rw[List.length_take] at hj
  rw[List.getElem_take]
  simp[nq,hb j (by omega)]
theorem spdf_code:cfun Tryz.prog [] 129=some ⟨(.seq (qR 0 [oX 4 (.mov (.k .nil0))]) (.seq (qR 1 [oM 8 0,oM 9 1,oX 10 (.call 162 [(.t 8),(.t 9)]),oM 5 10]) (.seq (.seq (qR 2 [oM 11 5,oX 12 (.bin .eql (.t 11) (kI (-1)))]) (.cond 12 (.seq (qR 3 [oM 13 0,oM 4 13]) .ret) .skip)) (.seq (.seq (qR 4 [oM 14 5,oX 15 (.bin .add (.t 14) (kI 1)),oM 6 15]) (.block 0 (.loop (.seq (.seq (qR 5 [oM 16 6,oM 17 0,oH 18 17,oX 19 (.bin .lss (.t 16) (.t 18))]) (.cond 19 .skip (.exit 0))) (.seq (.block 1 (.seq (qR 7 [oM 22 0,oM 23 6,oI 24 2 22 23,oA 25 2 24,oX 7 (.alloc [qZ,qZ]),oS 2 7 25]) (.seq (qR 8 [oM 26 1,oA 27 2 7,oX 28 (.callv (.t 26) [(.t 27)]),oX 29 (.not (.t 28))]) (.cond 29 (.seq (qR 9 [oM 30 0,oM 31 5,oA 32 2 7,oI 33 2 30 31,oS 2 33 32]) (qR 10 [oM 34 5,oX 35 (.bin .add (.t 34) (kI 1)),oM 5 35])) .skip)))) (qR 6 [oM 20 6,oX 21 (.bin .add (.t 20) (kI 1)),oM 6 21])))))) (.seq (qR 11 [oM 36 0,oM 37 5,oX 38 (.slc 2 (.t 36) (some (.t 37)) none none),oY (.xop 10 [2] [(.t 38)])]) (.seq (qR 12 [oM 39 0,oM 40 5,oX 41 (.slc 2 (.t 39) none (some (.t 40)) none),oM 4 41]) .ret)))))),[(.t 4)],42⟩:=by kernel_rfl
theorem spdf_hf (l:List (Int × Int)) (F:FuncId) (ds:List D) (q:Int × Int → Bool) (hl:l.length ≤ 1000000) (hF:∀ s ∈ l,PF Tryz.prog F [.agg (spE s),.pc ds] (.bool (q s))) :
  HF Tryz.prog 129 [.own 0,.fn F [.pc ds]] [(0,.row 2 (l.map spE))] 1 (fun d H' nx' => (d=.own 0 ∧ H'=[(0,.row 2 ((l.filter (nq q)).map spE))] ∧ nx'=1) ∨ ∃ W3,d=.sl 0 2 0 (l.filter (nq q)).length W3.length ∧ H'=[(0,.blk 2 W3)] ∧ nx'=1 ∧ W3.take (l.filter (nq q)).length=(l.filter (nq q)).map spE ∧ ∀ f,W3.map (fun x => List.map (rnC f) x)=W3):=by
 have hix:=spixf1_pf spE l F ds q hl (els_sp l) hF
 refine hO spdf_code [0,1,4,5,6,7,12,19,29] [11] fun B hBN hB0 => ?_
 by_cases h:idxZ q l = -1
 ·have hall:l.filter (nq q)=l:=df_all h
  rw[hall]
  repeat' (first
   | simp[h]
   | refine ⟨wcS ?_,?_⟩
   | (refine WCall.pf (hix) ?_ ?_ ?_ ?_;iterate 3 (solve|simp[h]))
   | with_reducible refine aI ?_ ?_ ?_)
 ·have hlo:=idxZ_lo q l
  have h0:0 ≤ idxZ q l:=by omega
  obtain ⟨i0,hi0⟩:∃ i0:Nat,idxZ q l=i0:=⟨(idxZ q l).toNat,by omega⟩
  rw[hi0] at hix
  have hil:i0 < l.length:=by omega
  have ii:InR ((i0:Int) + 1):=inG (by omega) (by omega)
  have hne:¬ (i0:Int) = -1:=by omega
  repeat' (first
   | simp[ii,hne]
   | refine ⟨wcS ?_,?_⟩
   | (refine WCall.pf (hix) ?_ ?_ ?_ ?_;iterate 3 (solve|simp[ii,hne]))
   | with_reducible refine aI ?_ ?_ ?_)
  refine W.loopS (fun y:Nat × Nat × List (Int × Int) => ⟨[(6,I y.2.1),(5,I y.1),(4,.nil0),(1,.fn F [.pc ds]),(0,.own 0)],[(0,.row 2 (y.2.2.map spE))],1⟩)
   (fun n y => n=l.length - y.2.1 ∧ y.2.1 ≤ l.length ∧ y.1 < y.2.1 ∧ y.2.2.length=l.length ∧ y.2.2.take y.1=(l.take y.2.1).filter (nq q) ∧ y.2.2.drop y.2.1=l.drop y.2.1) ?_ ?_
  ·refine ⟨_,(i0,i0 + 1,l),(Gh.ren [0] (by simp[hB0]) (by simp[hB0] <;> decide) (by simp) (by simp) (.inl (by simp))),rfl,by simp only;omega,by simp only;omega,rfl,df_start hi0,rfl⟩
  rintro n ⟨i,j,ys⟩ ⟨hn,hj,hij,hyl,h1,h2⟩
  simp only at hn hj hij hyl h1 h2
  refine acode_sound [0,1,4,5,6,7,12,19,29] [11] _ _ _ ?_
  by_cases hlt:j < l.length
  ·obtain ⟨x,hx⟩:∃ x,x=l[j]:=⟨_,rfl⟩
   have hyj:j < ys.length:=by omega
   have hye:ys[j]=x:=by rw[hx];exact df_at hlt hyj h2
   have hFx:=hF x (hx ▸ List.getElem_mem hlt)
   have ij:InR ((j:Int) + 1):=inG (by omega) (by omega)
   have i1:InR ((i:Int) + 1):=inG (by omega) (by omega)
   have hiy:i < ys.length:=by omega
   by_cases hq:q x=true
   ·have hd:=df_drop hlt h1 h2 (hx ▸ hq)
    rw[hq] at hFx
    repeat' (first
     | simp[hlt,hyl,hyj,hye,spE,ij]
     | refine ⟨wcS ?_,?_⟩
     | (refine WCall.pfv (hFx) ?_ rfl ?_ ?_ ?_;iterate 3 (solve|simp[hlt,hyl,hyj,hye,spE,ij]))
     | with_reducible refine aI ?_ ?_ ?_)
    exact ⟨_,(i,j + 1,ys),(Gh.ren [0] (by simp[hB0]) (by simp[hB0] <;> decide) (by simp) (by simp) (.inl (by simp))),by simp only;omega,rfl,by simp only;omega,by simp only;omega,hyl,hd.1,hd.2⟩
   ·have hq:q x=false:=by simpa using hq
    have hd:=df_keep hyl hij hlt h1 h2 (hx ▸ hq)
    rw[← hx] at hd
    rw[hq] at hFx
    have hd2:List.drop 2 ((Option.map spE ys[i]?).getD [])=[]:=by simp[zE hiy,spE]
    repeat' (first
     | simp[hlt,hyl,hyj,hye,spE,ij,i1,hiy,hd2]
     | refine ⟨wcS ?_,?_⟩
     | (refine WCall.pfv (hFx) ?_ rfl ?_ ?_ ?_;iterate 3 (solve|simp[hlt,hyl,hyj,hye,spE,ij,i1,hiy,hd2]))
     | with_reducible refine aI ?_ ?_ ?_)
    exact ⟨by omega,_,(i + 1,j + 1,ys.set i x),(Gh.ren [0] (by simp[hB0]) (by simp[hB0] <;> decide) (by simp[List.map_set,spE]) (by simp[List.map_set,spE]) (.inl (by simp[List.map_set,spE]))),by simp only;omega,rfl,by simp only;omega,by simp only;omega,by simp[hyl],hd.1,hd.2⟩
  ·obtain rfl:j=l.length:=by omega
   rw[List.take_length] at h1
   have hfl:(l.filter (nq q)).length=i:=by rw[← h1,List.length_take];omega
   have hfm:(l.filter (nq q)).map spE=(ys.map spE).take i:=by rw[← h1,List.map_take]
   simp[hyl]
   refine W.openR (t:=0) (id:=0) (sz:=2) (xs:=ys.map spE) (by simp) (by simp) (by simp;rintro rfl;simp at hyl;omega) fun k => ?_
   simp only[eput]
   refine acode_sound [0,1,4,5,6,7,12,19,29] [] _ _ _ ?_
   obtain ⟨U,hU⟩:∃ U,U=ys.map spE ++ List.replicate k (anyRow 2):=⟨_,rfl⟩
   have hUl:U.length=l.length + k:=by rw[hU];simp[hyl]
   have hUt:U.take i=(ys.map spE).take i:=by rw[hU,List.take_append_of_le_length (by simp;omega)]
   rw[← hU,List.length_map,hyl]
   have e1:i ≤ l.length:=by omega
   have e2:i ≤ l.length + k:=by omega
   have e3:l.length ≤ l.length + k:=by omega
   simp[e1,e2,e3]
   refine XCall.clear (id:=0) (sz:=2) (off:=i) (len:=l.length - i) (cp:=l.length + k - i) (xs:=U) (by simp) rfl (by simp) (by simp) ?_
   obtain ⟨W3,hW3⟩:∃ W3,W3=U.take i ++ List.replicate (l.length - i) (anyRow 2) ++ U.drop (i + (List.replicate (l.length - i) (anyRow 2)).length):=⟨_,rfl⟩
   have hWl:W3.length=l.length + k:=by rw[hW3];simp;omega
   have hWt:W3.take i=(ys.map spE).take i:=by
    rw[hW3,List.append_assoc,List.take_append_of_le_length (by simp;omega),List.take_take,Nat.min_self,hUt]
   have hWr:∀ f,W3.map (fun x => List.map (rnC f) x)=W3:=fun f => by
    have hUm:∀ r ∈ U,(∃ y,r=spE y) ∨ r=anyRow 2:=fun r hr => by
     rw[hU] at hr
     rcases List.mem_append.1 hr with hr | hr
     ·obtain ⟨y,_,rfl⟩:=List.mem_map.1 hr;exact .inl ⟨y,rfl⟩
     ·exact .inr (List.eq_of_mem_replicate hr)
    have:∀ r ∈ W3,List.map (rnC f) r=r:=fun r hr => by
     have hr':(∃ y,r=spE y) ∨ r=anyRow 2:=by
      rw[hW3] at hr
      rcases List.mem_append.1 hr with hr | hr
      ·rcases List.mem_append.1 hr with hr | hr
       ·exact hUm r (List.mem_of_mem_take hr)
       ·exact .inr (List.eq_of_mem_replicate hr)
      ·exact hUm r (List.mem_of_mem_drop hr)
     rcases hr' with ⟨y,rfl⟩ | rfl <;> rfl
    exact (List.map_congr_left this).trans (by simp)
   rw[← hW3]
   simp[e1,e2,e3,hfl,hfm,hWl,hWt]
   exact ⟨W3,hWl.symm,rfl,hWt,hWr⟩
theorem spots_del (b k n:Nat):(spotsM k n).filter (nq (isB b))=if k=b then [] else spotsM k n:=by
 split
 ·rename_i h
  refine List.filter_eq_nil_iff.2 fun s hs => ?_
  have:=spotsM_mem hs
  simp[nq,isB,this,h]
 ·rename_i h
  refine List.filter_eq_self.2 fun s hs => ?_
  have:=spotsM_mem hs
  simp[nq,isB,this];omega
theorem want_del (ws:List Nat) (b:Nat) (hb:b < ws.length):∀ k,wantM (ws.set b 0) k=(wantM ws k).filter (nq (isB b))
 | 0 => by simp[wantM]
 | k + 1 => by
  rw[wantM_succ,wantM_succ,List.filter_append,want_del ws b hb k,spots_del]
  by_cases h:k=b
  ·subst h
   rw[if_pos rfl]
   have:(ws.set k 0).getD k 0=0:=by simp[zC,hb]
   rw[this];rfl
  ·rw[if_neg h]
   have:(ws.set b 0).getD k 0=ws.getD k 0:=by simp[zC,List.getElem?_set_ne (Ne.symm h)]
   rw[this]
theorem ring_del (ws:List Nat) (h:WOk ws) (b:Nat) (hb:b < 12):(ringM ws).filter (nq (isB b))=ringM (ws.set b 0):=by
 have hp:((ringM ws).filter (nq (isB b))).Perm (ringM (ws.set b 0)):=by
  refine ((ringM_perm ws).filter _).trans ?_
  rw[← want_del ws b (by rw[h.len];exact hb)]
  exact (ringM_perm _).symm
 refine List.Perm.eq_of_pairwise (le:=fun a b => (!(ltOf cfSp) b a)=true) (fun a b _ _ h1 h2 => ?_) ((sortM_pw _).filter _) (sortM_pw _) hp
 simp only[Bool.not_eq_true'] at h1 h2
 exact totSp a b h2 h1
theorem rrem1_code:cfun Tryz.prog [] 130=some ⟨(.seq (qR 0 [oB 2 0,oX 3 (.mov (.k qF))]) (.seq (qR 1 [oF 4 1 2,oL 5 1 4,oL 6 1 1,oX 7 (.bin .eql (.t 5) (.t 6)),oM 3 7]) .ret)),[(.t 3)],8⟩:=by kernel_rfl
theorem rrem1_pf (s:Int × Int) (b:Nat):PF Tryz.prog 130 [.agg (spE s),.pc [I b]] (.bool (isB b s)):=by
 refine pO (h3:=by simp[spE]) rrem1_code [0,1,2,3] [] fun B hBN hB0 => ?_
 simp[spE,isB]
theorem rrem_code:cfun Tryz.prog [] 89=some ⟨(.seq (qR 0 [oB 2 0,oB 3 1,oX 4 (.alloc [.nil0]),oK 5 0]) (.seq (qR 1 [oA 10 1 2,oX 11 (.call 128 [(.t 10)]),oM 9 11,oE 12 9 0,oE 13 9 1,oX 6 (.alloc [qZ,qZ,qZ,qZ,qZ,qZ,qZ,qZ,qZ,qZ,qZ,qZ]),oS 12 6 12,oM 7 13]) (.seq (.block 0 (.seq (qR 2 [oM 15 7,oX 16 (.not (.t 15)),oM 14 16]) (.cond 14 (.seq (qR 3 [oX 17 (.build [.nil0] []),oS 1 4 17,oK 5 6]) .ret) (.seq (qR 4 [oL 19 1 3,oX 20 (.bin .lss (.t 19) (kI 0)),oM 21 20,oG 22 (.load false 1 (.t 3)) 21 false,oG 23 (.bin .geq (.t 22) (kI 12)) 21 false,oX 24 (.pick (.t 21) (.k qT) (.t 23)),oM 25 24,oG 26 (.load false 1 (.t 3)) 25 false,oG 27 (.iada 12 1 (.t 6) (.t 26)) 25 false,oG 28 (.load false 1 (.t 27)) 25 false,oG 29 (.bin .eql (.t 28) (kI 0)) 25 false,oX 30 (.pick (.t 25) (.k qT) (.t 29)),oM 18 30]) (.cond 18 (.seq (qR 5 [oX 31 (.build [.nil0] []),oS 1 4 31,oK 5 8]) .ret) .skip))))) (.seq (qR 6 [oF 32 0 2,oL 33 1 32,oX 34 (.call 77 [(.t 33)]),oX 35 (.mkfn 130 [(.t 3)]),oX 36 (.call 129 [(.t 34),(.t 35)]),oM 8 36]) (.seq (qR 7 [oM 37 8,oX 38 (.build [.nil0] [(0,(1,(.t 37)))]),oS 1 4 38,oK 5 0]) .ret))))),[(.c 4 true 1),(.t 5)],39⟩:=by kernel_rfl
theorem rrem_pf (ws:List Nat) (h:WOk ws) (b w:Nat) (hb:b < 12) (hw:ws.getD b 0=w) (h1:0 < w) :
  PF Tryz.prog 89 [.agg [.rows 2 ((ringM ws).map spE)],I b] (.tup [.agg [.rows 2 ((ringM (ws.set b 0)).map spE)],I 0]):=by
 have hwe:=rwei_pf ws h
 have hrl:=ringM_len ws h
 have hl12:=h.len
 have hs0:=spl12 h.len
 have htw:(ws.map fun w:Nat => I (w:Int)).take 12=ws.map fun w:Nat => I (w:Int):=List.take_of_length_le (by simp[h.len])
 have hat:ws[b]? = some w:=by
  rw[zC,zE (by omega)] at hw
  rw[zE (by omega)]
  simpa using hw
 have c1:¬ (b:Int) < 0:=by omega
 have c2:¬ (12:Int) ≤ b:=by omega
 have c3:¬ w=0:=by omega
 have hb1:(b:Int) < 12:=by omega
 have hb2:b ≤ 11:=by omega
 have hb3:0 < 12 - b:=by omega
 have hcl:=spcln_hf spE (ringM ws) (by omega) (els_sp _)
 have hdf:=spdf_hf (ringM ws) 130 [I b] (isB b) (by omega) (fun s _ => rrem1_pf s b)
 rw[ring_del ws h b hb] at hdf
 have hne:ringM ws ≠ []:=fun e => by
  have:=cnt_ring ws b hb
  rw[e,hw] at this
  simp at this;omega
 refine pO rrem_code [0,1,2,3,4,5,6,7,8,14,18] [6,7] fun B hBN hB0 => ?_
 repeat' (first
  | simp[hl12,hs0,htw,hat,c1,c2,c3,hb1,hb2,hb3]
  | refine ⟨wcS ?_,?_⟩
  | (refine WCall.pf (hwe) ?_ ?_ ?_ ?_;iterate 3 (solve|simp[hl12,hs0,htw,hat,c1,c2,c3,hb1,hb2,hb3]))
  | with_reducible refine aI ?_ ?_ ?_)
 refine W.freeze [1] ?_
 simp[freeze,hkeep,hdrop,fzS,fzR,fzV,fzC,fzO]
 refine acode_sound [0,1,2,3,4,5,6,7,8,14,18] [7] _ _ _ ?_
 simp
 refine WCall.hf0 hcl (by simp) (by simp) (by simp) (by simp) ?_
 rintro d H' nx' (⟨rfl,hnil,rfl,rfl⟩ | ⟨rfl,rfl,rfl⟩)
 ·exact absurd hnil hne
 simp
 refine wH [5] (hdf) ?_
 obtain ⟨R,hR⟩:∃ R,R=ringM (ws.set b 0):=⟨_,rfl⟩
 rw[← hR]
 rintro d H' nx' (⟨rfl,rfl,rfl⟩ | ⟨W3,rfl,rfl,rfl,hW3,hWr⟩)
 ·simp
  refine acode_sound [0,1,2,3,4,5,6,7,8,14,18] [] _ _ _ ?_
  simp
 ·simp[hWr]
  refine W.gh (Gh.closeR (t:=8) (id:=5) (sz:=2) (len:=R.length) (xs:=W3) (by simp) (by simp) ?_) ?_
  ·rw[hW3]
   intro r hr d hd
   obtain ⟨y,_,rfl⟩:=List.mem_map.1 hr
   simp[spE] at hd
   rcases hd with rfl | rfl <;> rfl
  rw[hW3]
  simp only[eput,herase]
  refine acode_sound [0,1,2,3,4,5,6,7,8,14,18] [] _ _ _ ?_
  simp
theorem rampw_code:cfun Tryz.prog [] 43=some ⟨(.seq (qR 0 [oK 8 0,oK 9 0]) (.seq (.seq (qR 1 [oM 10 0,oX 11 (.bin .lss (.t 10) (kI 1)),oM 12 11,oG 13 (.mov (.t 0)) 12 false,oG 14 (.bin .gtr (.t 13) (kI 8)) 12 false,oX 15 (.pick (.t 12) (.k qT) (.t 14)),oM 16 15,oG 17 (.mov (.t 3)) 16 false,oG 18 (.bin .lss (.t 17) (kI 0)) 16 false,oX 19 (.pick (.t 16) (.k qT) (.t 18)),oM 20 19,oG 21 (.mov (.t 3)) 20 false,oG 22 (.bin .gtr (.t 21) (kI 500)) 20 false,oX 23 (.pick (.t 20) (.k qT) (.t 22)),oM 24 23,oG 25 (.mov (.t 1)) 24 false,oG 26 (.bin .lss (.t 25) (kI 0)) 24 false,oX 27 (.pick (.t 24) (.k qT) (.t 26)),oM 28 27,oG 29 (.mov (.t 2)) 28 false,oG 30 (.mov (.t 1)) 28 false,oG 31 (.bin .lss (.t 29) (.t 30)) 28 false,oX 32 (.pick (.t 28) (.k qT) (.t 31)),oM 33 32,oG 34 (.mov (.t 2)) 33 false,oG 35 (.bin .gtr (.t 34) (kI 1099511627776)) 33 false,oX 36 (.pick (.t 33) (.k qT) (.t 35))]) (.cond 36 (.seq (qR 2 [oK 8 0,oK 9 2]) .ret) .skip)) (.seq (.seq (qR 3 [oM 37 2,oM 38 1,oX 39 (.bin .sub (.t 37) (.t 38)),oM 40 3,oX 41 (.bin .geq (.t 39) (.t 40))]) (.cond 41 (.seq (qR 4 [oM 42 0,oM 8 42,oK 9 0]) .ret) .skip)) (.seq (qR 5 [oM 43 0,oM 44 2,oM 45 1,oX 46 (.bin .sub (.t 44) (.t 45)),oX 47 (.bin .mul (.t 43) (.t 46)),oM 48 3,oX 49 (.bin .quo (.t 47) (.t 48)),oX 50 (.mx (.t 49) (kI 1)),oM 8 50,oK 9 0]) .ret)))),[(.t 8),(.t 9)],51⟩:=by kernel_rfl
theorem rampw_pf (w since now warm:Int) (w0:1 ≤ w) (w1:w ≤ 8) (s0:0 ≤ since) (s1:since ≤ now) (n1:now ≤ 1099511627776) (m0:0 ≤ warm) (m1:warm ≤ 500) :
  PF Tryz.prog 43 [I w,I since,I now,I warm] (.tup [I (rampM w since now warm),I 0]):=by
 refine pO rampw_code [0,1,2,3,8,9,36,41] [] fun B hBN hB0 => ?_
 have c1:¬ w < 1:=by omega
 have c2:¬ 8 < w:=by omega
 have c3:¬ warm < 0:=by omega
 have c4:¬ 500 < warm:=by omega
 have c5:¬ since < 0:=by omega
 have c6:¬ now < since:=by omega
 have c7:¬ 1099511627776 < now:=by omega
 have i1:InR (now - since):=inW (by omega) (by omega)
 by_cases h:warm ≤ now - since
 ·have hr:rampM w since now warm=w:=by unfold rampM;rw[if_pos h]
  simp[c1,c2,c3,c4,c5,c6,c7,i1,h,hr]
 ·have hr:rampM w since now warm=max (w * (now - since) / warm) 1:=by unfold rampM;rw[if_neg h]
  have p0:0 ≤ w * (now - since):=Int.mul_nonneg (by omega) (by omega)
  have p1:w * (now - since) ≤ 8 * 500:=Int.mul_le_mul w1 (by omega) (by omega) (by omega)
  have i2:InR (w * (now - since)):=inW (by omega) (by omega)
  have q0:0 ≤ w * (now - since) / warm:=Int.ediv_nonneg p0 m0
  have q1:w * (now - since) / warm ≤ 4000:=Int.le_trans (Int.ediv_le_self _ p0) p1
  have i3:InR (w * (now - since) / warm):=inW (by omega) (by omega)
  have z0:0 < warm:=by omega
  have z1:¬ warm=0:=by omega
  simp[c1,c2,c3,c4,c5,c6,c7,i1,i2,i3,p0,z0,z1,m0,h,hr]
  done
theorem allw_code:cfun Tryz.prog [] 143=some ⟨(.seq (qR 0 [oX 6 (.mov (.k qF)),oK 7 0]) (.seq (.seq (qR 1 [oM 8 1,oX 9 (.bin .lss (.t 8) (kI 0)),oM 10 9,oG 11 (.mov (.t 1)) 10 false,oG 12 (.bin .gtr (.t 11) (kI 12)) 10 false,oX 13 (.pick (.t 10) (.k qT) (.t 12)),oM 14 13,oG 15 (.mov (.t 0)) 14 false,oG 16 (.bin .lss (.t 15) (kI 0)) 14 false,oX 17 (.pick (.t 14) (.k qT) (.t 16)),oM 18 17,oG 19 (.mov (.t 0)) 18 false,oG 20 (.mov (.t 1)) 18 false,oG 21 (.bin .gtr (.t 19) (.t 20)) 18 false,oX 22 (.pick (.t 18) (.k qT) (.t 21)),oM 23 22,oG 24 (.mov (.t 2)) 23 false,oG 25 (.bin .lss (.t 24) (kI 0)) 23 false,oX 26 (.pick (.t 23) (.k qT) (.t 25)),oM 27 26,oG 28 (.mov (.t 2)) 27 false,oG 29 (.bin .gtr (.t 28) (kI 100)) 27 false,oX 30 (.pick (.t 27) (.k qT) (.t 29))]) (.cond 30 (.seq (qR 2 [oX 6 (.mov (.k qF)),oK 7 2]) .ret) .skip)) (.seq (qR 3 [oM 31 0,oX 32 (.bin .add (.t 31) (kI 1)),oX 33 (.bin .mul (.t 32) (kI 100)),oM 34 2,oM 35 1,oX 36 (.bin .mul (.t 34) (.t 35)),oX 37 (.bin .leq (.t 33) (.t 36)),oM 6 37,oK 7 0]) .ret))),[(.t 6),(.t 7)],38⟩:=by kernel_rfl
theorem allw_pf (out act most:Int) (o0:0 ≤ out) (o1:out ≤ act) (a1:act ≤ 12) (m0:0 ≤ most) (m1:most ≤ 100) :
  PF Tryz.prog 143 [I out,I act,I most] (.tup [.bool (allowM out act most),I 0]):=by
 refine pO allw_code [0,1,2,6,7,30] [] fun B hBN hB0 => ?_
 have c1:¬ act < 0:=by omega
 have c2:¬ 12 < act:=by omega
 have c3:¬ out < 0:=by omega
 have c4:¬ act < out:=by omega
 have c5:¬ most < 0:=by omega
 have c6:¬ 100 < most:=by omega
 have i1:InR (out + 1):=inW (by omega) (by omega)
 have i2:InR ((out + 1) * 100):=inW (by omega) (by omega)
 have p0:0 ≤ most * act:=Int.mul_nonneg (by omega) (by omega)
 have p1:most * act ≤ 100 * 12:=Int.mul_le_mul m1 a1 (by omega) (by omega)
 have i3:InR (most * act):=inW (by omega) (by omega)
 simp[c1,c2,c3,c4,c5,c6,i1,i2,i3,allowM]
theorem els_flw (l:List Flw):Els 7 Flw.D l:=fun x _ => ⟨rfl,by simp[Flw.D]⟩
theorem els_tsl (l:List TSlot):Els 4 TSlot.D l:=fun x _ => ⟨rfl,by simp[TSlot.D]⟩
theorem fl_le {tb:List TSlot} {fl:List Flw} (h:FlT tb fl):fl.length ≤ tb.length:=by
 have h1:=usedT_all h
 have h2:(tb.take tb.length).countP (·.used) ≤ (tb.take tb.length).length:=List.countP_le_length
 unfold usedT at h1
 rw[List.length_take] at h2
 omega
theorem gstate_code:cfun Tryz.prog [] 87=some ⟨(.seq (qR 0 [oK 4 0]) (.seq (qR 1 [oM 8 0,oN 9 8,oF 10 0 9,oF 11 19 10,oA 12 2 11,oM 13 1,oX 14 (.call 93 [(.t 12),(.t 13)]),oM 7 14,oE 15 7 0,oE 16 7 1,oX 5 (.alloc [qZ,qZ,qZ,qZ,qZ,qZ]),oS 6 5 15,oM 6 16]) (.seq (.seq (qR 2 [oM 17 6,oX 18 (.bin .neq (.t 17) (kI 0))]) (.cond 18 (.seq (qR 3 [oK 4 0]) .ret) .skip)) (.seq (qR 4 [oF 19 1 5,oL 20 1 19,oM 4 20]) .ret)))),[(.t 4)],21⟩:=by kernel_rfl
theorem gstate_pf (g:Gt) (b:Int) (hb:BookOk g.L g.R):PF Tryz.prog 87 [.pc g.P,I b] (I (stateM g.L b)):=by
 have h:=lof_pf g.L g.R b hb
 have hs:stateM g.L b=(ofM g.L b).1.state:=rfl
 have hd:(ofM g.L b).2 ≠ 0 → (ofM g.L b).1.state=0:=by
  intro h0
  unfold ofM at h0 ⊢
  split
  ·rfl
  ·rename_i h1;rw[if_neg h1] at h0;exact absurd rfl h0
 unfold bookD at h
 rw[hs]
 generalize ofM g.L b=x at h hd
 obtain ⟨x,e⟩:=x
 simp only at h hd
 refine pO (h3:=by simp[Gt.P,Gt.W,Gt.cells]) gstate_code [0,1,4,5,6,18] [] fun B hBN hB0 => ?_
 by_cases he:e=0
 ·subst he
  repeat' (first
   | simp[Gt.P,Gt.W,Gt.cells,Lif.D]
   | refine ⟨wcS ?_,?_⟩
   | (refine WCall.pf (h) ?_ ?_ ?_ ?_;iterate 3 (solve|simp[Gt.P,Gt.W,Gt.cells,Lif.D]))
   | with_reducible refine aI ?_ ?_ ?_)
 ·have hz:=hd he
  repeat' (first
   | simp[Gt.P,Gt.W,Gt.cells,Lif.D,he,hz]
   | refine ⟨wcS ?_,?_⟩
   | (refine WCall.pf (h) ?_ ?_ ?_ ?_;iterate 3 (solve|simp[Gt.P,Gt.W,Gt.cells,Lif.D,he,hz]))
   | with_reducible refine aI ?_ ?_ ?_)
theorem gfind1_code:cfun Tryz.prog [] 138=some ⟨(.seq (qR 0 [oB 2 0,oX 3 (.mov (.k qF))]) (.seq (qR 1 [oF 4 0 2,oF 5 0 4,oL 6 1 5,oL 7 1 1,oX 8 (.bin .eql (.t 6) (.t 7)),oM 3 8]) .ret)),[(.t 3)],9⟩:=by kernel_rfl
theorem gfind1_pf (f:Flw) (s:Int):PF Tryz.prog 138 [.agg f.D,.pc [I s]] (.bool (decide (f.slot=s))):=by
 refine pO (h3:=by simp[Flw.D]) gfind1_code [0,1,2,3] [] fun B hBN hB0 => ?_
 simp[Flw.D]
theorem gfind_code:cfun Tryz.prog [] 95=some ⟨(.seq (qR 0 [oB 3 1,oK 4 0]) (.seq (qR 1 [oM 5 0,oN 6 5,oF 7 0 6,oF 8 18 7,oL 9 1 8,oX 10 (.mkfn 138 [(.t 3)]),oX 11 (.call 137 [(.t 9),(.t 10)]),oM 4 11]) .ret)),[(.t 4)],12⟩:=by kernel_rfl
theorem gfind_pf (g:Gt) (s:Int) (hl:g.fl.length ≤ 1000000):PF Tryz.prog 95 [.pc g.P,I s] (I (findF g.fl s)):=by
 have h:=flixf1_pf Flw.D g.fl 138 [I s] (fun f => decide (f.slot=s)) hl (els_flw g.fl) (fun f _ => gfind1_pf f s)
 have hd:findF g.fl s=idxZ (fun f => decide (f.slot=s)) g.fl:=rfl
 refine pO (h3:=by simp[Gt.P,Gt.W,Gt.cells]) gfind_code [0,1,3,4] [] fun B hBN hB0 => ?_
 repeat' (first
  | simp[Gt.P,Gt.W,Gt.cells,hd]
  | refine ⟨wcS ?_,?_⟩
  | (refine WCall.pf (h) ?_ ?_ ?_ ?_;iterate 3 (solve|simp[Gt.P,Gt.W,Gt.cells,hd]))
  | with_reducible refine aI ?_ ?_ ?_)
theorem gput_code:cfun Tryz.prog [] 82=some ⟨(.seq (qR 0 [oB 3 1]) (.draw 1 (qN (oM 4 0) (qN (oM 5 0) (qN (oN 6 5) (qN (oF 7 26 6) (qN (oL 8 1 7) (qN (oA 9 7 3) (qN (oX 10 (.bslice 7 1 [qZ,qZ,qZ,qZ,qZ,qZ,qZ] [(0,(.t 9))])) (.one false (oX 11 (.app 7 56 [qZ,qZ,qZ,qZ,qZ,qZ,qZ] (.t 8) (.t 10))) (qN (oN 12 4) (qN (oF 13 26 12) (.one false (oS 1 13 11) .done))))))))))))),[],14⟩:=by kernel_rfl
theorem gput_mo (g:Gt) (o:Outp) (hl:g.out.length ≤ 1000000):MO Tryz.prog 82 [.agg o.D] g (g.put o):=by
 have hcap:(g.out.length + 1) * 56 ≤ 140737488355328:=by omega
 refine MO.of ?_
 unfold Gt.H Gt.cells
 refine hO (h3:=by simp[Outp.D]) gput_code [0,1,3] [] fun B hBN hB0 => ?_
 simp[hcap,Outp.D]
 exact ⟨6,by simp[Gt.put,Outp.D,Gt.cells]⟩
structure DueOk (now wn:Int) (tm:List (Int × Int)) (slot span:Int):Prop where
 w:WhOk now tm
 wn:wn=now
 n0:0 ≤ now
 n1:now ≤ 1000000
 s0:0 ≤ slot
 s1:slot < 200
 p0:1 ≤ span
 p1:span ≤ 500
theorem rm_none {tm:List (Int × Int)} {s:Int} (h:∀ x ∈ tm,x.2 ≠ s):rmT tm s=tm:=by
 unfold rmT
 exact List.filter_eq_self.2 fun x hx => by simpa using h x hx
theorem rm_no (tm:List (Int × Int)) (s:Int):∀ x ∈ rmT tm s,x.2 ≠ s:=fun x hx => by
 have:=(List.mem_filter.1 hx).2
 simpa using this
theorem gdue_code:cfun Tryz.prog [] 85=some ⟨(.seq (.seq (.draw 0 (qN (oM 9 0) (qN (oN 10 9) (qN (oF 11 0 10) (qN (oF 12 24 11) (qN (oA 13 2 12) (qN (oM 14 1) (qN (oN 15 14) (qN (oF 16 0 15) (qN (oF 17 0 16) (qN (oL 18 1 17) (.two (qN (oX 19 (.call 67 [(.t 13),(.t 18)])) (qN (oM 8 19) (qN (oE 20 8 0) (qN (oE 21 8 1) (qN (oX 6 (.alloc [qZ,.nil0])) (.one false (oS 2 6 20) (qN (oM 7 21) .done))))))) (.two (qN (oX 6 (.alloc [qZ,.nil0])) (qN (oX 19 (.call 67 [(.t 13),(.t 18)])) (qN (oM 8 19) (qN (oE 20 8 0) (qN (oE 21 8 1) (.one false (oS 2 6 20) (qN (oM 7 21) .done))))))) .top))))))))))))) (.seq (qR 1 [oM 22 7,oX 23 (.bin .eql (.t 22) (kI 0))]) (.cond 23 (qR 2 [oM 24 0,oA 25 2 6,oN 26 24,oF 27 0 26,oF 28 24 27,oS 2 28 25]) .skip))) (.seq (qR 3 [oM 29 1,oM 30 0,oN 31 30,oF 32 0 31,oF 33 16 32,oL 34 1 33,oM 35 2,oX 36 (.bin .add (.t 34) (.t 35)),oN 37 29,oF 38 6 37,oS 1 38 36]) (.draw 4 (qN (oM 40 0) (qN (oM 41 0) (qN (oN 42 41) (qN (oF 43 0 42) (qN (oF 44 24 43) (qN (oA 45 2 44) (qN (oM 46 1) (qN (oN 47 46) (qN (oF 48 0 47) (qN (oF 49 0 48) (qN (oL 50 1 49) (qN (oM 51 1) (qN (oN 52 51) (qN (oF 53 6 52) (qN (oL 54 1 53) (qN (oX 55 (.call 120 [(.t 45),(.t 50),(.t 54)])) (qN (oM 39 55) (qN (oE 56 39 0) (qN (oE 57 39 1) (qN (oN 58 40) (qN (oF 59 0 58) (qN (oF 60 24 59) (.one false (oS 2 60 56) .done)))))))))))))))))))))))))),[],61⟩:=by kernel_rfl
theorem gdue_mk (g:Gt) (i:Nat) (span:Int) (hi:i < g.fl.length) (h:DueOk g.now g.wn g.tm g.fl[i].slot span) :
  MK Tryz.prog 85 [.pel 1 i 7 0,I span] g (g.dueA i (g.now + span)):=by
 obtain ⟨hw,hwn,n0,n1,s0,s1,p0,p1⟩:=h
 have e:g.dueA i (g.now + span)={ g with tm:=insT (g.now + span,g.fl[i].slot) (rmT g.tm g.fl[i].slot),fl:=g.fl.set i { g.fl[i] with due:=g.now + span } }:=by
  unfold Gt.dueA armT;rw[getD_at _ hi]
 rw[e]
 refine MK.of ?_
 have hr:=hw.sub (fun t => decide (t.2 ≠ g.fl[i].slot))
 have harm:=warmM g.now (rmT g.tm g.fl[i].slot) hr (g.now + span,g.fl[i].slot) (by simp only;omega) (fun x hx => rm_no _ _ x hx)
 have ii:InR (g.now + span):=inW (by omega) (by omega)
 simp only[whM_def] at harm
 obtain ⟨f,hf⟩:∃ f,f=g.fl[i]:=⟨_,rfl⟩
 rw[← hf] at harm hr s0 s1 ⊢
 have hcan:(∃ x ∈ g.tm,x.2=f.slot) ∨ ∀ x ∈ g.tm,x.2 ≠ f.slot:=by
  by_cases hx:∃ x ∈ g.tm,x.2=f.slot
  ·exact .inl hx
  ·exact .inr fun x hx2 e => hx ⟨x,hx2,e⟩
 rcases hcan with hx | hx
 ·have hc:=wcanM g.now g.tm hw f.slot hx
  have hrm:(g.tm.filter fun t => decide (t.2 ≠ f.slot))=rmT g.tm f.slot:=rfl
  rw[hrm] at hc
  simp only[whM_def] at hc
  unfold Gt.H Gt.cells
  refine hO gdue_code [0,1,2,6,7,23] [] fun B hBN hB0 => ?_
  repeat' (first
   | simp[hi,← hf,Flw.D,ii,hwn]
   | refine ⟨wcS ?_,?_⟩
   | (refine WCall.pf (hc) ?_ ?_ ?_ ?_;iterate 3 (solve|simp[hi,← hf,Flw.D,ii,hwn]))
   | (refine WCall.pf (harm) ?_ ?_ ?_ ?_;iterate 3 (solve|simp[hi,← hf,Flw.D,ii,hwn]))
   | with_reducible refine aI ?_ ?_ ?_)
  all_goals done
 ·have hc:=wcan0M g.now g.tm hw f.slot hx
  rw[rm_none hx] at harm ⊢
  simp only[whM_def] at hc
  unfold Gt.H Gt.cells
  refine hO gdue_code [0,1,2,6,7,23] [] fun B hBN hB0 => ?_
  repeat' (first
   | simp[hi,← hf,Flw.D,ii,hwn]
   | refine ⟨wcS ?_,?_⟩
   | (refine WCall.pf (hc) ?_ ?_ ?_ ?_;iterate 3 (solve|simp[hi,← hf,Flw.D,ii,hwn]))
   | (refine WCall.pf (harm) ?_ ?_ ?_ ?_;iterate 3 (solve|simp[hi,← hf,Flw.D,ii,hwn]))
   | with_reducible refine aI ?_ ?_ ?_)
  all_goals done
theorem gspar_code:cfun Tryz.prog [] 90=some ⟨(.seq (qR 0 [oM 9 0,oN 10 9,oF 11 0 10,oF 12 19 11,oA 13 2 12,oM 14 1,oX 15 (.call 93 [(.t 13),(.t 14)]),oM 8 15,oE 16 8 0,oE 17 8 1,oX 4 (.alloc [qZ,qZ,qZ,qZ,qZ,qZ]),oS 6 4 16,oM 5 17]) (.seq (.seq (qR 1 [oM 18 5,oX 19 (.bin .neq (.t 18) (kI 0)),oM 20 19,oG 21 (.fad 1 (.t 4)) 20 false,oG 22 (.load false 1 (.t 21)) 20 false,oG 23 (.bin .neq (.t 22) (kI 3)) 20 false,oX 24 (.pick (.t 20) (.k qT) (.t 23))]) (.cond 24 .ret .skip)) (.seq (.seq (qR 2 [oM 26 0,oN 27 26,oF 28 0 27,oF 29 17 28,oA 30 1 29,oM 31 1,oX 32 (.call 98 [(.t 30),(.t 31)]),oM 25 32,oE 33 25 0,oE 34 25 1,oM 6 33,oM 7 34]) (.seq (qR 3 [oM 35 6,oH 36 35,oX 37 (.bin .gtr (.t 36) (kI 0))]) (.cond 37 .ret .skip))) (.seq (qR 4 [oM 39 0,oM 40 0,oN 41 40,oF 42 0 41,oF 43 19 42,oA 44 2 43,oM 45 1,oX 46 (.call 131 [(.t 44),(.t 45)]),oM 38 46,oE 47 38 0,oE 48 38 1,oN 49 39,oF 50 0 49,oF 51 19 50,oS 2 51 47]) (qR 5 [oM 52 0,oM 53 1,oF 54 5 4,oL 55 1 54,oX 56 (.build [qZ,qZ,qZ,qZ,qZ,qZ,qZ] [(0,(1,(kI 9))),(3,(1,(.t 53))),(4,(1,(.t 55)))]),oX 57 (.call 82 [(.t 52),(.t 56)])]))))),[],58⟩:=by kernel_rfl
theorem gspar_mo (g:Gt) (n:Nat) (b:Int) (h:Mid g n b) (ho:g.out.length < 1000000):MO Tryz.prog 90 [I b] g (g.spared b):=by
 refine MO.of ?_
 have hof:=lof_pf g.L g.R b h.bk
 have hfin:=lfin_pf g.L g.R b h.bk
 have htof:=tofb_pf g.tb b h.tok
 have hlen:=ofL_len g.tb b
 have hput:=fun L':List Lif => gput_mo { g with L:=L' } (goneO b (lifeM g.L b).req) (by show g.out.length ≤ _;omega)
 have hl1:lifeM g.L b=(ofM g.L b).1:=rfl
 have hst:stateM g.L b=(lifeM g.L b).state:=rfl
 unfold Gt.spared
 unfold bookD at hof hfin
 by_cases h3:stateM g.L b=3
 ·have he:(ofM g.L b).2=0:=by
   unfold ofM
   split
   ·rename_i h1
    exfalso
    have:stateM g.L b=0:=by unfold stateM lifeM ofM;rw[if_pos h1];rfl
    omega
   ·rfl
  have hfe:(finishM g.L b).2=0:=by obtain ⟨i,hi,_,_,e⟩:=finish_set h.bk.sorted h3;rw[e]
  rw[he,← hl1] at hof
  rw[hfe,if_pos rfl] at hfin
  have h3':(lifeM g.L b).state=3:=h3
  generalize lifeM g.L b=x at hof h3' hput ⊢
  by_cases h0:cntB g.tb b=0
  ·rw[if_pos ⟨h3,h0⟩]
   have hput:=hput (finishM g.L b).1
   unfold MO Gt.H Gt.cells at hput
   simp only[Outp.D,goneO] at hput
   have hz:(ofL g.tb b).length=0:=by omega
   unfold Gt.H Gt.cells
   refine hO gspar_code [0,1,4,5,6,24,37] [] fun B hBN hB0 => ?_
   repeat' (first
    | simp[Lif.D,h3',hz]
    | refine ⟨wcS ?_,?_⟩
    | (refine WCall.pf (hof) ?_ ?_ ?_ ?_;iterate 3 (solve|simp[Lif.D,h3',hz]))
    | (refine WCall.pf (htof) ?_ ?_ ?_ ?_;iterate 3 (solve|simp[Lif.D,h3',hz]))
    | (refine WCall.pf (hfin) ?_ ?_ ?_ ?_;iterate 3 (solve|simp[Lif.D,h3',hz]))
    | with_reducible refine aI ?_ ?_ ?_)
   refine wH [0,1,2,3] (hput) ?_
   rintro d H' nx' ⟨rfl,rfl,rfl⟩
   simp
   exact ⟨5,by simp[Gt.put,goneO,Outp.D,Gt.cells]⟩
  ·rw[if_neg (fun hh => h0 hh.2)]
   have hz:0 < (ofL g.tb b).length:=by omega
   unfold Gt.H Gt.cells
   refine hO gspar_code [0,1,4,5,6,24,37] [] fun B hBN hB0 => ?_
   repeat' (first
    | simp[Lif.D,h3',hz]
    | refine ⟨wcS ?_,?_⟩
    | (refine WCall.pf (hof) ?_ ?_ ?_ ?_;iterate 3 (solve|simp[Lif.D,h3',hz]))
    | (refine WCall.pf (htof) ?_ ?_ ?_ ?_;iterate 3 (solve|simp[Lif.D,h3',hz]))
    | with_reducible refine aI ?_ ?_ ?_)
   exact ⟨3,by simp⟩
 ·rw[if_neg (fun hh => h3 hh.1)]
  have h3':¬ (ofM g.L b).1.state=3:=h3
  clear hput hl1 hst hfin
  generalize ofM g.L b=x at hof h3'
  obtain ⟨x,e⟩:=x
  simp only at hof h3'
  unfold Gt.H Gt.cells
  refine hO gspar_code [0,1,4,5,6,24,37] [] fun B hBN hB0 => ?_
  by_cases he:e=0
  ·subst he
   repeat' (first
    | simp[Lif.D,h3']
    | refine ⟨wcS ?_,?_⟩
    | (refine WCall.pf (hof) ?_ ?_ ?_ ?_;iterate 3 (solve|simp[Lif.D,h3']))
    | with_reducible refine aI ?_ ?_ ?_)
   exact ⟨3,by simp⟩
  ·skip
   repeat' (first
    | simp[Lif.D,h3',he]
    | refine ⟨wcS ?_,?_⟩
    | (refine WCall.pf (hof) ?_ ?_ ?_ ?_;iterate 3 (solve|simp[Lif.D,h3',he]))
    | with_reducible refine aI ?_ ?_ ?_)
   exact ⟨3,by simp⟩
theorem spared_out (g:Gt) (b:Int):(g.spared b).out.length ≤ g.out.length + 1:=by
 unfold Gt.spared
 split <;> simp
theorem get_flow {g:Gt} {n:Nat} {ex:Int} (h:Mid g n ex) {f:Flw} (hf:f ∈ g.fl):getM g.tb f.slot f.gen=(⟨f.gen,true,f.key,f.backend⟩,0):=by
 obtain ⟨h0,h1,h2,_⟩:=h.flow hf
 unfold getM
 rw[if_neg (by omega),h2,if_pos ⟨rfl,rfl⟩]
theorem gdrop_code:cfun Tryz.prog [] 96=some ⟨(.seq (qR 0 [oB 5 2]) (.seq (qR 1 [oM 9 0,oN 10 9,oF 11 0 10,oF 12 18 11,oL 13 1 12,oM 14 1,oI 15 7 13 14,oA 16 7 15,oX 6 (.alloc [qZ,qZ,qZ,qZ,qF,qZ,qZ]),oS 7 6 16]) (.seq (qR 2 [oM 17 0,oM 18 0,oN 19 18,oF 20 0 19,oF 21 18 20,oL 22 1 21,oM 23 1,oM 24 1,oX 25 (.bin .add (.t 24) (kI 1)),oX 26 (.call 139 [(.t 22),(.t 23),(.t 25)]),oN 27 17,oF 28 0 27,oF 29 18 28,oS 1 29 26]) (.seq (.draw 3 (qN (oM 31 0) (qN (oM 32 0) (qN (oN 33 32) (qN (oF 34 0 33) (qN (oF 35 17 34) (qN (oA 36 1 35) (qN (oF 37 0 6) (qN (oA 38 2 37) (qN (oX 39 (.call 140 [(.t 36),(.t 38)])) (qN (oM 30 39) (qN (oE 40 30 0) (qN (oE 41 30 1) (qN (oN 42 31) (qN (oF 43 0 42) (qN (oF 44 17 43) (.one false (oS 1 44 40) .done))))))))))))))))) (.seq (.seq (.draw 4 (qN (oM 46 0) (qN (oN 47 46) (qN (oF 48 0 47) (qN (oF 49 24 48) (qN (oA 50 2 49) (qN (oF 51 0 6) (qN (oF 52 0 51) (qN (oL 53 1 52) (.two (qN (oX 54 (.call 67 [(.t 50),(.t 53)])) (qN (oM 45 54) (qN (oE 55 45 0) (qN (oE 56 45 1) (qN (oX 7 (.alloc [qZ,.nil0])) (.one false (oS 2 7 55) (qN (oM 8 56) .done))))))) (.two (qN (oX 7 (.alloc [qZ,.nil0])) (qN (oX 54 (.call 67 [(.t 50),(.t 53)])) (qN (oM 45 54) (qN (oE 55 45 0) (qN (oE 56 45 1) (.one false (oS 2 7 55) (qN (oM 8 56) .done))))))) .top))))))))))) (.seq (qR 5 [oM 57 8,oX 58 (.bin .eql (.t 57) (kI 0))]) (.cond 58 (qR 6 [oM 59 0,oA 60 2 7,oN 61 59,oF 62 0 61,oF 63 24 62,oS 2 63 60]) .skip))) (.seq (.draw 7 (qN (oF 64 0 6) (qN (oF 65 0 64) (qN (oL 66 1 65) (qN (oF 67 0 6) (qN (oF 68 1 67) (qN (oF 70 3 6) (qN (oF 72 1 5) (.two (qN (oL 69 1 68) (.two (qN (oL 71 1 70) (.one false (oS 1 72 66) (qN (oF 73 2 5) (.one false (oS 1 73 69) (qN (oF 74 3 5) (.one false (oS 1 74 71) .done)))))) (.two (.one false (oS 1 72 66) (qN (oF 73 2 5) (.two (qN (oL 71 1 70) (.one false (oS 1 73 69) (qN (oF 74 3 5) (.one false (oS 1 74 71) .done)))) (.two (.one false (oS 1 73 69) (qN (oL 71 1 70) (qN (oF 74 3 5) (.one false (oS 1 74 71) .done)))) .top)))) .top))) (.two (qN (oL 71 1 70) (.two (qN (oL 69 1 68) (.one false (oS 1 72 66) (qN (oF 73 2 5) (.one false (oS 1 73 69) (qN (oF 74 3 5) (.one false (oS 1 74 71) .done)))))) (.two (.one false (oS 1 72 66) (qN (oL 69 1 68) (qN (oF 73 2 5) (.one false (oS 1 73 69) (qN (oF 74 3 5) (.one false (oS 1 74 71) .done)))))) .top))) (.two (.one false (oS 1 72 66) (qN (oL 69 1 68) (qN (oF 73 2 5) (.two (qN (oL 71 1 70) (.one false (oS 1 73 69) (qN (oF 74 3 5) (.one false (oS 1 74 71) .done)))) (.two (.one false (oS 1 73 69) (qN (oL 71 1 70) (qN (oF 74 3 5) (.one false (oS 1 74 71) .done)))) .top))))) .top))))))))))) (.seq (qR 8 [oM 75 0,oA 76 7 5,oX 77 (.call 82 [(.t 75),(.t 76)])]) (qR 9 [oM 78 0,oF 79 3 6,oL 80 1 79,oX 81 (.call 90 [(.t 78),(.t 80)])])))))))),[],82⟩:=by kernel_rfl
theorem gdrop_mf (g:Gt) (n:Nat) (i:Nat) (o:Outp) (h:Mid g n (-1)) (hi:i < g.fl.length) (ho:g.out.length < 999999) :
  MF Tryz.prog 96 [I i,.agg o.D] g (g.drop i o):=by
 have hm:=List.getElem_mem hi
 obtain ⟨f,hf⟩:∃ f,f=g.fl[i]:=⟨_,rfl⟩
 have hget:=get_flow h hm
 obtain ⟨s0,s1,_⟩:=h.flow hm
 have hA:g.dropA i o={ g with fl:=g.fl.eraseIdx i,tb:=g.tb.set f.slot.toNat ⟨f.gen + 1,false,0,0⟩,tm:=rmT g.tm f.slot,out:=g.out ++ [⟨o.kind,f.slot,f.gen,f.backend,o.request,o.code,o.why⟩] }:=by
  unfold Gt.dropA;rw[getD_at _ hi,← hf]
 have hsp:=gspar_mo (g.dropA i o) n f.backend (by have:=h.dropA hi o;rw[getD_at _ hi,← hf] at this;exact this) (by rw[hA];simp;omega)
 have hD:(g.dropA i o).spared f.backend=g.drop i o:=by unfold Gt.drop;rw[getD_at _ hi,← hf]
 rw[hD,hA] at hsp
 have hput:=gput_mo { g with fl:=g.fl.eraseIdx i,tb:=g.tb.set f.slot.toNat ⟨f.gen + 1,false,0,0⟩,tm:=rmT g.tm f.slot } ⟨o.kind,f.slot,f.gen,f.backend,o.request,o.code,o.why⟩ (by show g.out.length ≤ _;omega)
 have hl40:g.fl.length < 1000000:=by have:=fl_le h.fs;have:=h.tok.2.1;omega
 have hdel:=fdel_hf (g.fl.map Flw.D) i (by simpa using hi) (by simpa using hl40) (els_flw g.fl).rows (els_flw g.fl).isT
 have e1:(g.fl.map Flw.D).take i ++ (g.fl.map Flw.D).drop (i + 1)=(g.fl.eraseIdx i).map Flw.D:=by
  rw[List.eraseIdx_eq_take_drop_succ,List.map_append,List.map_take,List.map_drop]
 rw[e1] at hdel
 have htd:=tdrop_pf g.tb f.slot f.gen h.tok
 rw[← hf] at hget s0 s1
 have e2:dropM g.tb f.slot f.gen=(g.tb.set f.slot.toNat ⟨f.gen + 1,false,0,0⟩,0):=by unfold dropM;rw[hget];rfl
 rw[e2] at htd
 have ii:InR ((i:Int) + 1):=inW (by omega) (by omega)
 refine MF.of ?_
 generalize g.drop i o=G at hsp ⊢
 generalize g.fl.eraseIdx i=FL at hsp hput hdel
 generalize g.tb.set f.slot.toNat ⟨f.gen + 1,false,0,0⟩=TB at hsp hput htd
 simp only[MO,Gt.H,Gt.cells,Gt.put,Outp.D,List.map_append,List.map_cons,List.map_nil,List.cons_append,List.nil_append] at hput hsp
 have hwn:=h.wn
 unfold Gt.H Gt.cells
 by_cases hx:∃ x ∈ g.tm,x.2=f.slot
 ·have hc:=wcanM g.now g.tm h.wh f.slot hx
  have e3:(g.tm.filter fun t => decide (t.2 ≠ f.slot))=rmT g.tm f.slot:=rfl
  rw[e3] at hc
  simp only[whM_def] at hc
  generalize rmT g.tm f.slot=TM at hsp hput hc
  refine hO (h3:=by simp[Outp.D]) gdrop_code [0,1,2,5,6,7,8,58] [] fun B hBN hB0 => ?_
  simp[hi,← hf,Flw.D,Outp.D,ii]
  refine wH [1] (hdel) ?_
  rintro d H' nx' ⟨rfl,rfl,rfl⟩
  repeat' (first
   | simp[hwn]
   | refine ⟨wcS ?_,?_⟩
   | (refine WCall.pf (htd) ?_ ?_ ?_ ?_;iterate 3 (solve|simp[hwn]))
   | (refine WCall.pf (hc) ?_ ?_ ?_ ?_;iterate 3 (solve|simp[hwn]))
   | with_reducible refine aI ?_ ?_ ?_)
  all_goals
   refine WCall.hf [0,6,2,3] (hput) (by simp) rfl rfl (by decide) (by simp) (by simp[hwn]) (by simp[hwn]) (by simp[hwn]) (by simp[hwn]) ?_
   rintro d H' nx' ⟨rfl,rfl,rfl⟩
   simp
   refine WCall.hf [0,6,2,8] (hsp) (by simp) rfl rfl (by decide) (by simp) (by simp[hwn]) (by simp[hwn]) (by simp[hwn]) (by simp[hwn]) ?_
   rintro d H' nx' ⟨rfl,rfl,rfl⟩
   simp
   exact ⟨9,by simp,6,by simp⟩
 ·have hx2:∀ x ∈ g.tm,x.2 ≠ f.slot:=fun x hx3 e => hx ⟨x,hx3,e⟩
  have hc:=wcan0M g.now g.tm h.wh f.slot hx2
  rw[rm_none hx2] at hsp hput
  simp only[whM_def] at hc
  refine hO (h3:=by simp[Outp.D]) gdrop_code [0,1,2,5,6,7,8,58] [] fun B hBN hB0 => ?_
  simp[hi,← hf,Flw.D,Outp.D,ii]
  refine wH [1] (hdel) ?_
  rintro d H' nx' ⟨rfl,rfl,rfl⟩
  repeat' (first
   | simp[hwn]
   | refine ⟨wcS ?_,?_⟩
   | (refine WCall.pf (htd) ?_ ?_ ?_ ?_;iterate 3 (solve|simp[hwn]))
   | (refine WCall.pf (hc) ?_ ?_ ?_ ?_;iterate 3 (solve|simp[hwn]))
   | with_reducible refine aI ?_ ?_ ?_)
  all_goals
   refine WCall.hf [0,6,2,3] (hput) (by simp) rfl rfl (by decide) (by simp) (by simp[hwn]) (by simp[hwn]) (by simp[hwn]) (by simp[hwn]) ?_
   rintro d H' nx' ⟨rfl,rfl,rfl⟩
   simp
   refine WCall.hf [0,6,2,8] (hsp) (by simp) rfl rfl (by decide) (by simp) (by simp[hwn]) (by simp[hwn]) (by simp[hwn]) (by simp[hwn]) ?_
   rintro d H' nx' ⟨rfl,rfl,rfl⟩
   simp
   exact ⟨9,by simp,6,by simp⟩
theorem act_take (L:List Lif) (i:Nat) (h:i < L.length):((actN (L.take (i + 1)):Nat):Int)=(actN (L.take i):Int) + if L[i].state=2 then 1 else 0:=by
 unfold actN
 rw[List.take_succ_eq_append_getElem h,List.countP_append,List.countP_cons,List.countP_nil]
 split <;> simp_all
theorem out_take (L:List Lif) (hl:List Hlth) (i:Nat) (h:i < L.length):((outN (L.take (i + 1)) hl:Nat):Int)=(outN (L.take i) hl:Int) + if L[i].state=2 ∧ isOut hl L[i].backend=true then 1 else 0:=by
 unfold outN
 rw[List.take_succ_eq_append_getElem h,List.countP_append,List.countP_cons,List.countP_nil]
 by_cases h1:L[i].state=2 <;> cases h2:isOut hl L[i].backend <;> simp[h1,h2]
theorem out_le (L:List Lif) (hl:List Hlth):outN L hl ≤ actN L:=by
 unfold outN actN
 exact List.countP_mono_left fun x _ hx => by simp only[Bool.and_eq_true] at hx;exact hx.1
theorem gnote_code:cfun Tryz.prog [] 99=some ⟨(.seq (qR 0 [oK 6 0,oK 7 0]) (.seq (.seq (qR 1 [oM 15 0,oN 16 15,oF 17 0 16,oF 18 19 17,oF 19 0 18,oL 20 1 19,oH 21 20,oK 22 0]) (.block 0 (.loop (.seq (qR 2 [oX 23 (.bin .lss (.t 22) (.t 21))]) (.seq (.cond 23 .skip (.exit 0)) (.seq (.block 1 (.seq (qR 3 [oI 24 6 20 22,oA 25 6 24,oX 9 (.alloc [qZ,qZ,qZ,qZ,qZ,qZ]),oS 6 9 25]) (.seq (.seq (qR 4 [oF 26 1 9,oL 27 1 26,oX 28 (.bin .neq (.t 27) (kI 2))]) (.cond 28 (.exit 1) .skip)) (.seq (qR 5 [oM 29 7,oX 30 (.bin .add (.t 29) (kI 1)),oM 7 30]) (.seq (.draw 6 (qN (oM 31 0) (qN (oN 32 31) (qN (oF 33 0 32) (qN (oF 34 22 33) (qN (oL 35 1 34) (qN (oF 36 0 9) (qN (oL 37 1 36) (qN (oI 38 4 35 37) (qN (oF 39 1 38) (qN (oL 40 1 39) .done))))))))))) (.cond 40 (qR 7 [oM 41 6,oX 42 (.bin .add (.t 41) (kI 1)),oM 6 42]) .skip)))))) (qR 8 [oX 43 (.bin .add (.t 22) (kI 1)),oM 22 43]))))))) (.seq (qR 9 [oM 45 6,oM 46 7,oM 47 0,oN 48 47,oF 49 0 48,oF 50 0 49,oF 51 9 50,oL 52 1 51,oX 53 (.call 143 [(.t 45),(.t 46),(.t 52)]),oM 44 53,oE 54 44 0,oE 55 44 1,oM 10 54,oM 11 55]) (.seq (.draw 10 (qN (oM 57 0) (qN (oN 58 57) (qN (oF 59 0 58) (qN (oF 60 0 59) (qN (oF 61 13 60) (qN (oA 62 3 61) (qN (oM 63 0) (qN (oN 64 63) (qN (oF 65 0 64) (qN (oF 66 22 65) (qN (oL 67 1 66) (qN (oM 68 1) (qN (oI 69 4 67 68) (qN (oA 70 4 69) (qN (oM 71 2) (qN (oM 72 0) (qN (oN 73 72) (qN (oF 74 0 73) (qN (oF 75 16 74) (qN (oL 76 1 75) (qN (oM 77 10) (qN (oM 78 77) (qN (oG 79 (.mov (.t 0)) 78 true) (qN (oG 80 (.mov (.t 1)) 78 true) (.two (qN (oG 81 (.call 87 [(.t 79),(.t 80)]) 78 true) (qN (oG 82 (.bin .eql (.t 81) (kI 2)) 78 true) (qN (oX 83 (.pick (.t 78) (.t 82) (.k qF))) (.two (qN (oX 84 (.call 144 [(.t 62),(.t 70),(.t 71),(.t 76),(.t 83)])) (qN (oM 56 84) (qN (oE 85 56 0) (qN (oE 86 56 1) (qN (oE 87 56 2) (qN (oX 12 (.alloc [.nil0,qF,qZ,qZ])) (.one false (oS 4 12 85) (qN (oM 13 86) (qN (oM 14 87) .done))))))))) (.two (qN (oX 12 (.alloc [.nil0,qF,qZ,qZ])) (qN (oX 84 (.call 144 [(.t 62),(.t 70),(.t 71),(.t 76),(.t 83)])) (qN (oM 56 84) (qN (oE 85 56 0) (qN (oE 86 56 1) (qN (oE 87 56 2) (.one false (oS 4 12 85) (qN (oM 13 86) (qN (oM 14 87) .done))))))))) .top))))) (.two (qN (oX 12 (.alloc [.nil0,qF,qZ,qZ])) (qN (oG 81 (.call 87 [(.t 79),(.t 80)]) 78 true) (qN (oG 82 (.bin .eql (.t 81) (kI 2)) 78 true) (qN (oX 83 (.pick (.t 78) (.t 82) (.k qF))) (qN (oX 84 (.call 144 [(.t 62),(.t 70),(.t 71),(.t 76),(.t 83)])) (qN (oM 56 84) (qN (oE 85 56 0) (qN (oE 86 56 1) (qN (oE 87 56 2) (.one false (oS 4 12 85) (qN (oM 13 86) (qN (oM 14 87) .done)))))))))))) .top))))))))))))))))))))))))))) (.draw 11 (qN (oM 88 0) (qN (oN 89 88) (qN (oF 90 0 89) (qN (oF 91 22 90) (qN (oL 92 1 91) (qN (oM 93 1) (qN (oA 94 4 12) (qN (oI 95 4 92 93) (.one false (oS 4 95 94) .done)))))))))))))),[],96⟩:=by kernel_rfl
theorem gnote_mk (g : Gt) (n : Nat) (ex : Int) (fl' : List Flw) (b : Int) (failed : Bool) (h : Mid g n ex) (b0 : 0 ≤ b) (b1 : b < 12) :
    MK Tryz.prog 99 [I b, .bool failed] { g with fl:=fl' } ({ g with fl:=fl' }.note b failed):=by
  have hst:=gstate_pf { g with fl:=fl' } b h.bk
  have hll:=h.bk.ll
  have hhn:=h.hn
  have hb12:b.toNat < g.hl.length:=by omega
  have hm:g.hl.getD b.toNat hzero ∈ g.hl:=getD_mem _ hb12
  have ho:=h.hok _ hm
  have hale:=out_le g.L g.hl
  have hale2:actN g.L ≤ g.L.length:=List.countP_le_length
  have hal:=allw_pf (outN g.L g.hl) (actN g.L) g.c.c9 (by omega) (by omega) (by omega) h.c.w9.1 h.c.w9.2
  have hno:=fun may => hnote_pf g.c.wat (g.hl.getD b.toNat hzero) failed may g.now h.c.w ho.1 h.n0 (by have:=h.n1; have:=h.nn; omega)
  obtain ⟨k, hk⟩:∃ k:Nat, b=k:=⟨b.toNat, by omega⟩
  have hgd:g.hl.getD b.toNat hzero=g.hl[k]'(by omega):=by subst hk; exact getD_at _ (by omega)
  have hkl:k < g.hl.length:=by omega
  have hN:{ g with fl:=fl' }.note b failed={ g with fl:=fl', hl:=g.hl.set k (noteH g.c.wat g.hl[k] failed g.now (allowM (outN g.L g.hl) (actN g.L) g.c.c9 && decide (stateM g.L b=2))).1 }:=by
    unfold Gt.note; simp only; rw[hgd]; subst hk; rfl
  rw[hN]
  rw[hgd] at hno
  have hno1:=hno (allowM (outN g.L g.hl) (actN g.L) g.c.c9 && decide (stateM g.L b=2))
  clear hno hN
  refine MK.of ?_
  generalize noteH g.c.wat g.hl[k] failed g.now (allowM (outN g.L g.hl) (actN g.L) g.c.c9 && decide (stateM g.L b=2))=NH at hno1
  obtain ⟨nh, nb⟩:=NH
  simp only at hno1
  simp only[Gt.P, Gt.W, Gt.cells, List.cons_append, List.nil_append] at hst
  unfold Gt.H Gt.cells
  subst hk
  simp only[Wtch.D] at hno1
  refine hO gnote_code [0, 1, 2, 6, 7, 9, 10, 12, 20, 21, 22, 23, 28, 40] [] fun B hBN hB0 => ?_
  simp
  refine W.loopS (fun y : Nat => ⟨[(22, I y), (21, I g.L.length), (20, .rows 6 (g.L.map Lif.D)), (7, I (actN (g.L.take y))), (6, I (outN (g.L.take y) g.hl)), (2, .bool failed), (1, I k), (0, .ptr 0 0)],
      [(3, .row 7 (g.out.map Outp.D)), (2, .row 4 (g.hl.map Hlth.D)), (1, .row 7 (fl'.map Flw.D)), (0, .cells [I g.c.slots, I g.c.num, I g.c.den, I g.c.tries, I g.c.c4, I g.c.c5, I g.c.c6, I g.c.c7, I g.c.c8, I g.c.c9, I g.c.bud.num, I g.c.bud.den, I g.c.bud.burst, I g.c.wat.window, I g.c.wat.fails, I g.c.wat.hold,
   I g.now, .rows 4 (g.tb.map TSlot.D), .own 1, .rows 6 (g.L.map Lif.D), .rows 5 (g.R.map Rqs.D), .rows 2 ((ringM g.ws).map spE), .own 2, I g.tok, I g.wn, .rows 1 (lrT g.wn g.tm), .own 3])], 4⟩)
    (fun n i => n=g.L.length - i ∧ i ≤ g.L.length) ?_ ?_
  · exact ⟨_, 0, (Gh.ren [0, 1, 2, 3] (by simp[hB0]) (by simp[hB0] <;> decide) (by simp[actN, outN]) (by simp[actN, outN]) (.inl (by simp[actN, outN]))), rfl, by omega⟩
  rintro n i ⟨hn, hi⟩
  refine acode_sound [0, 1, 2, 6, 7, 9, 10, 12, 20, 21, 22, 23, 28, 40] [] _ _ _ ?_
  by_cases hlt:i < g.L.length
  · have ha:=act_take g.L i hlt
    have hou:=out_take g.L g.hl i hlt
    have hlo:=h.bk.lok _ (List.getElem_mem hlt)
    obtain ⟨x, hx⟩:∃ x, x=g.L[i]:=⟨_, rfl⟩
    rw[← hx] at ha hou hlo
    have ii:InR ((i:Int) + 1):=inW (by omega) (by omega)
    have hle1:actN (g.L.take i) ≤ (g.L.take i).length:=List.countP_le_length
    have hle2:=out_le (g.L.take i) g.hl
    rw[List.length_take] at hle1
    have ia:InR ((actN (g.L.take i):Int) + 1):=inW (by omega) (by omega)
    have io:InR ((outN (g.L.take i) g.hl:Int) + 1):=inW (by omega) (by omega)
    by_cases s2:x.state=2
    · obtain ⟨m, hmm⟩:∃ m:Nat, x.backend=m:=⟨x.backend.toNat, by have:=hlo.b0; omega⟩
      have hml:m < g.hl.length:=by have:=hlo.b1; omega
      have hio:isOut g.hl x.backend=g.hl[m].out:=by unfold isOut; rw[hmm]; simp[zC, hml]
      obtain ⟨q, hq⟩:∃ q, q=g.hl[m]:=⟨_, rfl⟩
      rw[hio, ← hq] at hou
      cases hqo:q.out with
      | true =>
        simp[s2, hqo] at ha hou
        simp[hlt, ← hx, Lif.D, s2, ii, ia, io, hmm, hml, ← hq, Hlth.D, hqo]
        exact ⟨_, i + 1, (Gh.ren [0, 1, 2, 3] (by simp[hB0]) (by simp[hB0] <;> decide) (by simp[ha, hou]) (by simp[ha, hou]) (.inl (by simp[ha, hou]))), by omega, rfl, by omega⟩
      | false =>
        simp[s2, hqo] at ha hou
        simp[hlt, ← hx, Lif.D, s2, ii, ia, io, hmm, hml, ← hq, Hlth.D, hqo]
        exact ⟨_, i + 1, (Gh.ren [0, 1, 2, 3] (by simp[hB0]) (by simp[hB0] <;> decide) (by simp[ha, hou]) (by simp[ha, hou]) (.inl (by simp[ha, hou]))), by omega, rfl, by omega⟩
    · simp[s2] at ha hou
      simp[hlt, ← hx, Lif.D, s2, ii]
      exact ⟨_, i + 1, (Gh.ren [0, 1, 2, 3] (by simp[hB0]) (by simp[hB0] <;> decide) (by simp[ha, hou]) (by simp[ha, hou]) (.inl (by simp[ha, hou]))), by omega, rfl, by omega⟩
  · obtain rfl:i=g.L.length:=by omega
    rw[List.take_length]
    obtain ⟨q, hq⟩:∃ q, q=g.hl[k]:=⟨_, rfl⟩
    rw[← hq] at hno1
    simp only[Hlth.D] at hno1
    cases hcl:allowM (outN g.L g.hl) (actN g.L) g.c.c9 with
    | true =>
      rw[hcl] at hal hno1
      by_cases hs2:stateM g.L k=2
      · simp[hs2] at hno1
        repeat' (first
          | simp[hcl, hkl, ← hq, Hlth.D, hs2]
          | refine ⟨wcS ?_, ?_⟩
          | (refine WCall.pf (hal) ?_ ?_ ?_ ?_; iterate 3 (solve|simp[hcl, hkl, ← hq, Hlth.D, hs2]))
          | (refine WCall.pf (hst) ?_ ?_ ?_ ?_; iterate 3 (solve|simp[hcl, hkl, ← hq, Hlth.D, hs2]))
          | (refine WCall.pf (hno1) ?_ ?_ ?_ ?_; iterate 3 (solve|simp[hcl, hkl, ← hq, Hlth.D, hs2]))
          | with_reducible refine aI ?_ ?_ ?_)
        all_goals done
      · simp[hs2] at hno1
        repeat' (first
          | simp[hcl, hkl, ← hq, Hlth.D, hs2]
          | refine ⟨wcS ?_, ?_⟩
          | (refine WCall.pf (hal) ?_ ?_ ?_ ?_; iterate 3 (solve|simp[hcl, hkl, ← hq, Hlth.D, hs2]))
          | (refine WCall.pf (hst) ?_ ?_ ?_ ?_; iterate 3 (solve|simp[hcl, hkl, ← hq, Hlth.D, hs2]))
          | (refine WCall.pf (hno1) ?_ ?_ ?_ ?_; iterate 3 (solve|simp[hcl, hkl, ← hq, Hlth.D, hs2]))
          | with_reducible refine aI ?_ ?_ ?_)
        all_goals done
    | false =>
      rw[hcl] at hal hno1
      simp at hno1
      repeat' (first
        | simp[hcl, hkl, ← hq, Hlth.D]
        | refine ⟨wcS ?_, ?_⟩
        | (refine WCall.pf (hal) ?_ ?_ ?_ ?_; iterate 3 (solve|simp[hcl, hkl, ← hq, Hlth.D]))
        | (refine WCall.pf (hst) ?_ ?_ ?_ ?_; iterate 3 (solve|simp[hcl, hkl, ← hq, Hlth.D]))
        | (refine WCall.pf (hno1) ?_ ?_ ?_ ?_; iterate 3 (solve|simp[hcl, hkl, ← hq, Hlth.D]))
        | with_reducible refine aI ?_ ?_ ?_)
      all_goals done
def lds (g:Gt) (but:Int) (i:Nat):List Load:=((g.L.take i).filter fun x => decide (x.state=2)).map (loadOf g but)
theorem loads_take (g:Gt) (but:Int) (i:Nat) (h:i < g.L.length):lds g but (i + 1)=lds g but i ++ if g.L[i].state=2 then [loadOf g but g.L[i]] else []:=by
 unfold lds
 rw[List.take_succ_eq_append_getElem h,List.filter_append,List.map_append]
 split
 ·rename_i hs;simp[hs]
 ·rename_i hs;simp[hs]
theorem lds_len (g:Gt) (but:Int) (i:Nat) (h:i ≤ g.L.length):(lds g but i).length ≤ i:=by
 unfold lds
 rw[List.length_map]
 refine Nat.le_trans (List.length_filter_le ..) ?_
 rw[List.length_take];omega
theorem lds_0 (g:Gt) (but:Int):lds g but 0=[]:=rfl
theorem lds_all (g:Gt) (but:Int):lds g but g.L.length=loadsM g but:=by unfold lds loadsM;rw[List.take_length]
theorem gloads_code:cfun Tryz.prog [] 117=some ⟨(.seq (qR 0 [oX 4 (.mov (.k .nil0))]) (.seq (qR 1 [oM 12 0,oN 13 12,oF 14 0 13,oF 15 17 14,oA 16 1 15,oX 17 (.call 39 [(.t 16)]),oM 11 17,oE 18 11 0,oE 19 11 1,oM 5 18,oM 6 19]) (.seq (qR 2 [oX 7 (.mov (.k .nil0))]) (.seq (.seq (qR 3 [oM 20 0,oN 21 20,oF 22 0 21,oF 23 19 22,oF 24 0 23,oL 25 1 24,oH 26 25,oK 27 0]) (.block 0 (.loop (.seq (qR 4 [oX 28 (.bin .lss (.t 27) (.t 26))]) (.seq (.cond 28 .skip (.exit 0)) (.seq (.block 1 (.seq (qR 5 [oI 29 6 25 27,oA 30 6 29,oX 9 (.alloc [qZ,qZ,qZ,qZ,qZ,qZ]),oS 6 9 30]) (.seq (.seq (qR 6 [oF 31 1 9,oL 32 1 31,oX 33 (.bin .neq (.t 32) (kI 2))]) (.cond 33 (.exit 1) .skip)) (.seq (.draw 7 (qN (oF 34 0 9) (qN (oL 35 1 34) (qN (oM 36 5) (qN (oF 37 0 9) (qN (oL 38 1 37) (qN (oI 39 1 36 38) (qN (oL 40 1 39) (qN (oX 41 (.build [qZ,qZ,qZ] [(0,(1,(.t 35))),(2,(1,(.t 40)))])) (qN (oX 10 (.alloc [qZ,qZ,qZ])) (.one false (oS 3 10 41) .done))))))))))) (.seq (.seq (.draw 8 (qN (oM 42 1) (qN (oX 43 (.bin .geq (.t 42) (kI 0))) (qN (oM 44 43) (qN (oG 45 (.mov (.t 0)) 44 true) (qN (oG 46 (.nchk (.t 45)) 44 true) (qN (oG 47 (.fad 0 (.t 46)) 44 true) (qN (oG 48 (.fad 17 (.t 47)) 44 true) (qN (oG 49 (.fad 0 (.t 48)) 44 true) (qN (oG 50 (.load false 1 (.t 49)) 44 true) (qN (oG 51 (.mov (.t 1)) 44 true) (qN (oG 52 (.iads 4 (.t 50) (.t 51)) 44 true) (qN (oG 53 (.fad 3 (.t 52)) 44 true) (qN (oG 54 (.load false 1 (.t 53)) 44 true) (qN (oG 55 (.fad 0 (.t 9)) 44 true) (qN (oG 56 (.load false 1 (.t 55)) 44 true) (qN (oG 57 (.bin .eql (.t 54) (.t 56)) 44 true) (qN (oX 58 (.pick (.t 44) (.t 57) (.k qF))) .done)))))))))))))))))) (.cond 58 (qR 9 [oF 59 2 10,oL 60 1 59,oX 61 (.bin .sub (.t 60) (kI 1)),oF 62 2 10,oS 1 62 61]) .skip)) (.seq (.seq (.draw 10 (qN (oM 63 0) (qN (oN 64 63) (qN (oF 65 0 64) (qN (oF 66 22 65) (qN (oL 67 1 66) (qN (oF 68 0 9) (qN (oL 69 1 68) (qN (oI 70 4 67 69) (qN (oF 71 1 70) (qN (oL 72 1 71) (qN (oX 73 (.not (.t 72))) .done)))))))))))) (.cond 73 (.draw 11 (qN (oF 75 2 9) (qN (oL 76 1 75) (qN (oF 77 3 9) (qN (oL 78 1 77) (qN (oM 79 0) (qN (oN 80 79) (qN (oF 81 0 80) (qN (oF 82 16 81) (qN (oL 83 1 82) (qN (oM 84 0) (qN (oN 85 84) (qN (oF 86 0 85) (qN (oF 87 0 86) (qN (oF 88 4 87) (qN (oL 89 1 88) (qN (oX 90 (.call 43 [(.t 76),(.t 78),(.t 83),(.t 89)])) (qN (oM 74 90) (qN (oE 91 74 0) (qN (oE 92 74 1) (qN (oF 93 1 10) (.one false (oS 1 93 91) .done)))))))))))))))))))))) .skip)) (qR 12 [oM 94 7,oA 95 3 10,oX 96 (.bslice 3 1 [qZ,qZ,qZ] [(0,(.t 95))]),oX 97 (.app 3 24 [qZ,qZ,qZ] (.t 94) (.t 96)),oM 7 97]))))))) (qR 13 [oX 98 (.bin .add (.t 27) (kI 1)),oM 27 98]))))))) (.seq (qR 14 [oM 99 7,oM 4 99]) .ret))))),[(.t 4)],100⟩:=by kernel_rfl
theorem gloads_pf (g:Gt) (n:Nat) (ex:Int) (but:Int) (h:Mid g n ex) (hb:ButOk g but):PF Tryz.prog 117 [.pc g.P,I but] (.rows 3 ((loadsM g but).map Load.D)):=by
 have hcn:=tcounts_pf g.tb h.tok
 have hll:=h.bk.ll
 have hhn:=h.hn
 have hcl:(countsL g.tb).length=12:=by simp[countsL]
 obtain ⟨P,hP⟩:∃ P,P=g.P:=⟨_,rfl⟩
 rw[← hP]
 have hP':=hP
 simp only[Gt.P,Gt.W,Gt.cells,List.cons_append,List.nil_append] at hP'
 refine pO gloads_code [0,1,4,5,7,9,10,25,26,27,28,33,58,73] [] fun B hBN hB0 => ?_
 repeat' (first
  | simp[hP']
  | refine ⟨wcS ?_,?_⟩
  | (refine WCall.pf (hcn) ?_ ?_ ?_ ?_;iterate 3 (solve|simp[hP']))
  | with_reducible refine aI ?_ ?_ ?_)
 refine W.loopS (fun y:Nat => ⟨[(27,I y),(26,I g.L.length),(25,.rows 6 (g.L.map Lif.D)),(7,.own 0),(5,.rows 1 ((countsL g.tb).map GI)),(1,I but),(0,.pc P)],
   [(0,.row 3 ((lds g but y).map Load.D))],1⟩)
  (fun n i => n=g.L.length - i ∧ i ≤ g.L.length) ?_ ?_
 ·refine ⟨_,0,(Gh.adopt 7 3 (by omega) (by simp)).trans ?_,rfl,by omega⟩
  simp
  exact (gr0 [0] hB0 (by simp[hP',lds_0]) (by simp[hP',lds_0]) (.inl (by simp[hP',lds_0])))
 rintro n' i ⟨hn,hi⟩
 refine acode_sound [0,1,4,5,7,9,10,25,26,27,28,33,58,73] [] _ _ _ ?_
 by_cases hlt:i < g.L.length
 ·have hlt2:=loads_take g but i hlt
  have hln:=lds_len g but i hi
  have hlo:=h.bk.lok _ (List.getElem_mem hlt)
  have hsi:=h.since _ (List.getElem_mem hlt)
  have hmem:=List.getElem_mem hlt
  obtain ⟨x,hx⟩:∃ x,x=g.L[i]:=⟨_,rfl⟩
  rw[← hx] at hlt2 hlo hsi hmem
  have ii:InR ((i:Int) + 1):=inW (by omega) (by omega)
  by_cases s2:x.state=2
  ·rw[if_pos s2] at hlt2
   generalize lds g but i=acc at hlt2 hln ⊢
   have hcap:(acc.length + 1) * 24 ≤ 140737488355328:=by omega
   obtain ⟨m,hmm⟩:∃ m:Nat,x.backend=m:=⟨x.backend.toNat,by have:=hlo.b0;omega⟩
   have hm12:m < 12:=by have:=hlo.b1;omega
   have hml:m < g.hl.length:=by omega
   have hmc:m < (countsL g.tb).length:=by omega
   have hcg:=countsL_get g.tb m hm12
   have hio:isOut g.hl x.backend=g.hl[m].out:=by unfold isOut;rw[hmm];simp[zC,hml]
   have hrw:=rampw_pf x.weight x.since g.now g.c.c4 hlo.w0 hlo.w1 hlo.s0 hsi (by have:=h.n1;have:=h.nn;omega) h.c.w4.1 h.c.w4.2
   obtain ⟨q,hq⟩:∃ q,q=g.hl[m]:=⟨_,rfl⟩
   rw[← hq] at hio
   have hcle:=cntB_le g.tb (m:Int)
   have ht40:=h.tok.2.1
   have ic:InR ((cntB g.tb (m:Int):Int) - 1):=inW (by omega) (by omega)
   have hld:loadOf g but x=⟨x.backend,if isOut g.hl x.backend=true then 0 else rampM x.weight x.since g.now g.c.c4,(cntB g.tb x.backend:Int) - if 0 ≤ but ∧ (g.tb.getD but.toNat tzero).backend=x.backend then 1 else 0⟩:=rfl
   rw[hio,hmm] at hld
   by_cases b0:0 ≤ but
   ·obtain ⟨j,hj⟩:∃ j:Nat,but=j:=⟨but.toNat,by omega⟩
    have hjl:j < g.tb.length:=by
     rcases hb with hb | ⟨f,hf,e⟩
     ·omega
     ·have:=(h.flow hf).2.1;omega
    have hgj:g.tb.getD but.toNat tzero=g.tb[j]:=by subst hj;exact getD_at _ hjl
    obtain ⟨t,ht⟩:∃ t,t=g.tb[j]:=⟨_,rfl⟩
    rw[hgj,← ht] at hld
    subst hj
    by_cases hbe:t.backend=x.backend
    ·rw[hmm] at hbe
     cases hqo:q.out with
     | true =>
      simp[hbe,hqo] at hld
      repeat' (first
       | simp[hP',hlt,← hx,Lif.D,s2,ii,hmm,hml,hmc,hcg,GI,← hq,Hlth.D,hqo,hjl,← ht,TSlot.D,hbe,ic,hcap]
       | refine ⟨wcS ?_,?_⟩
       | (refine WCall.pf (hrw) ?_ ?_ ?_ ?_;iterate 3 (solve|simp[hP',hlt,← hx,Lif.D,s2,ii,hmm,hml,hmc,hcg,GI,← hq,Hlth.D,hqo,hjl,← ht,TSlot.D,hbe,ic,hcap]))
       | with_reducible refine aI ?_ ?_ ?_)
      exact ⟨_,i + 1,(gr0 [4] hB0 (by simp[hP',hlt2,hld,Load.D]) (by simp[hP',hlt2,hld,Load.D]) (.inl (by simp[hP',hlt2,hld,Load.D]))),by omega,rfl,by omega⟩
     | false =>
      simp[hbe,hqo] at hld
      repeat' (first
       | simp[hP',hlt,← hx,Lif.D,s2,ii,hmm,hml,hmc,hcg,GI,← hq,Hlth.D,hqo,hjl,← ht,TSlot.D,hbe,ic,hcap]
       | refine ⟨wcS ?_,?_⟩
       | (refine WCall.pf (hrw) ?_ ?_ ?_ ?_;iterate 3 (solve|simp[hP',hlt,← hx,Lif.D,s2,ii,hmm,hml,hmc,hcg,GI,← hq,Hlth.D,hqo,hjl,← ht,TSlot.D,hbe,ic,hcap]))
       | with_reducible refine aI ?_ ?_ ?_)
      exact ⟨_,i + 1,(gr0 [4] hB0 (by simp[hP',hlt2,hld,Load.D]) (by simp[hP',hlt2,hld,Load.D]) (.inl (by simp[hP',hlt2,hld,Load.D]))),by omega,rfl,by omega⟩
    ·rw[hmm] at hbe
     cases hqo:q.out with
     | true =>
      simp[hbe,hqo] at hld
      repeat' (first
       | simp[hP',hlt,← hx,Lif.D,s2,ii,hmm,hml,hmc,hcg,GI,← hq,Hlth.D,hqo,hjl,← ht,TSlot.D,hbe,ic,hcap]
       | refine ⟨wcS ?_,?_⟩
       | (refine WCall.pf (hrw) ?_ ?_ ?_ ?_;iterate 3 (solve|simp[hP',hlt,← hx,Lif.D,s2,ii,hmm,hml,hmc,hcg,GI,← hq,Hlth.D,hqo,hjl,← ht,TSlot.D,hbe,ic,hcap]))
       | with_reducible refine aI ?_ ?_ ?_)
      exact ⟨_,i + 1,(gr0 [4] hB0 (by simp[hP',hlt2,hld,Load.D]) (by simp[hP',hlt2,hld,Load.D]) (.inl (by simp[hP',hlt2,hld,Load.D]))),by omega,rfl,by omega⟩
     | false =>
      simp[hbe,hqo] at hld
      repeat' (first
       | simp[hP',hlt,← hx,Lif.D,s2,ii,hmm,hml,hmc,hcg,GI,← hq,Hlth.D,hqo,hjl,← ht,TSlot.D,hbe,ic,hcap]
       | refine ⟨wcS ?_,?_⟩
       | (refine WCall.pf (hrw) ?_ ?_ ?_ ?_;iterate 3 (solve|simp[hP',hlt,← hx,Lif.D,s2,ii,hmm,hml,hmc,hcg,GI,← hq,Hlth.D,hqo,hjl,← ht,TSlot.D,hbe,ic,hcap]))
       | with_reducible refine aI ?_ ?_ ?_)
      exact ⟨_,i + 1,(gr0 [4] hB0 (by simp[hP',hlt2,hld,Load.D]) (by simp[hP',hlt2,hld,Load.D]) (.inl (by simp[hP',hlt2,hld,Load.D]))),by omega,rfl,by omega⟩
   ·have hbn:but.toNat=0:=by omega
    obtain ⟨t0,ht0⟩:∃ t0,g.tb[0]? = some t0:=⟨_,zE (by have:=h.tok.1;omega)⟩
    cases hqo:q.out with
    | true =>
     simp[b0,hqo] at hld
     repeat' (first
      | simp[hP',hlt,← hx,Lif.D,s2,ii,hmm,hml,hmc,hcg,GI,← hq,Hlth.D,hqo,b0,hbn,ht0,TSlot.D,hcap]
      | refine ⟨wcS ?_,?_⟩
      | (refine WCall.pf (hrw) ?_ ?_ ?_ ?_;iterate 3 (solve|simp[hP',hlt,← hx,Lif.D,s2,ii,hmm,hml,hmc,hcg,GI,← hq,Hlth.D,hqo,b0,hbn,ht0,TSlot.D,hcap]))
      | with_reducible refine aI ?_ ?_ ?_)
     exact ⟨_,i + 1,(gr0 [4] hB0 (by simp[hP',hlt2,hld,Load.D]) (by simp[hP',hlt2,hld,Load.D]) (.inl (by simp[hP',hlt2,hld,Load.D]))),by omega,rfl,by omega⟩
    | false =>
     simp[b0,hqo] at hld
     repeat' (first
      | simp[hP',hlt,← hx,Lif.D,s2,ii,hmm,hml,hmc,hcg,GI,← hq,Hlth.D,hqo,b0,hbn,ht0,TSlot.D,hcap]
      | refine ⟨wcS ?_,?_⟩
      | (refine WCall.pf (hrw) ?_ ?_ ?_ ?_;iterate 3 (solve|simp[hP',hlt,← hx,Lif.D,s2,ii,hmm,hml,hmc,hcg,GI,← hq,Hlth.D,hqo,b0,hbn,ht0,TSlot.D,hcap]))
      | with_reducible refine aI ?_ ?_ ?_)
     exact ⟨_,i + 1,(gr0 [4] hB0 (by simp[hP',hlt2,hld,Load.D]) (by simp[hP',hlt2,hld,Load.D]) (.inl (by simp[hP',hlt2,hld,Load.D]))),by omega,rfl,by omega⟩
  ·rw[if_neg s2,List.append_nil] at hlt2
   simp[hP',hlt,← hx,Lif.D,s2,ii]
   exact ⟨_,i + 1,(gr0 [0] hB0 (by simp[hP',hlt2]) (by simp[hP',hlt2]) (.inl (by simp[hP',hlt2]))),by omega,rfl,by omega⟩
 ·obtain rfl:i=g.L.length:=by omega
  simp[hP',lds_all]
  done
theorem nodup_len:∀ (n:Nat) (l:List Int),l.Nodup → (∀ z ∈ l,0 ≤ z ∧ z < n) → l.length ≤ n
 | 0,l,_,h => by
  cases l with
  | nil => simp
  | cons a t => have:=h a (by simp);omega
 | n + 1,l,hn,h => by
  have ih:=nodup_len n (l.filter fun z => decide (z ≠ (n:Int))) (hn.filter _) (fun z hz => by
   have h1:=List.mem_filter.1 hz
   have h2:=h z h1.1
   have h3:=h1.2
   simp at h3;omega)
  have hc:=List.length_eq_countP_add_countP (fun z:Int => decide (z ≠ (n:Int))) (l:=l)
  rw[List.countP_eq_length_filter] at hc
  have h1:List.countP (fun z => !decide (z ≠ (n:Int))) l ≤ 1:=by
   have h2:=hn.count (a:=(n:Int))
   have h3:List.countP (fun z => !decide (z ≠ (n:Int))) l=l.count (n:Int):=by
    unfold List.count
    refine List.countP_congr fun z _ => ?_
    simp
   rw[h3,h2]
   split <;> omega
  simp only[Bool.not_eq_true,Bool.decide_eq_false] at hc
  omega
theorem gpick_code:cfun Tryz.prog [] 83=some ⟨(.seq (qR 0 [oK 6 0,oK 7 0]) (.seq (qR 1 [oM 12 0,oN 13 12,oF 14 0 13,oF 15 21 14,oA 16 1 15,oM 17 1,oX 18 (.call 115 [(.t 16),(.t 17)]),oM 11 18,oE 19 11 0,oE 20 11 1,oM 8 19,oM 9 20]) (.seq (qR 2 [oM 21 0,oN 22 21,oF 23 0 22,oF 24 18 23,oL 25 1 24,oH 26 25,oM 10 26]) (.seq (.seq (qR 3 [oM 27 2,oX 28 (.bin .geq (.t 27) (kI 0))]) (.cond 28 (qR 4 [oM 29 10,oX 30 (.bin .sub (.t 29) (kI 1)),oM 10 30]) .skip)) (.seq (.draw 5 (qN (oM 31 8) (qN (oM 32 0) (qN (oM 33 2) (qN (oM 35 0) (qN (oN 36 35) (qN (oF 37 0 36) (qN (oF 38 0 37) (qN (oF 39 1 38) (qN (oL 40 1 39) (qN (oM 41 0) (qN (oN 42 41) (qN (oF 43 0 42) (qN (oF 44 0 43) (qN (oF 45 2 44) (qN (oL 46 1 45) (qN (oM 47 10) (qN (oM 48 0) (qN (oN 49 48) (qN (oF 50 0 49) (qN (oF 51 0 50) (qN (oF 52 3 51) (qN (oL 53 1 52) (qN (oX 34 (.call 117 [(.t 32),(.t 33)])) (qN (oX 54 (.call 116 [(.t 31),(.t 34),(.t 40),(.t 46),(.t 47),(.t 53)])) (qN (oE 55 54 0) (qN (oE 56 54 1) (qN (oM 6 55) (qN (oM 7 56) .done))))))))))))))))))))))))))))) .ret))))),[(.t 6),(.t 7)],57⟩:=by kernel_rfl
theorem gpick_pf (g:Gt) (n:Nat) (ex:Int) (key but:Int) (h:Mid g n ex) (hb:ButOk g but) (k0:0 ≤ key) (k1:key ≤ 4294967295):PF Tryz.prog 83 [.pc g.P,I key,I but] (.tup [I (pickG g key but).1,I (pickG g key but).2]):=by
 have hlo:=gloads_pf g n ex but h hb
 have hws:WOk g.ws:=by rw[h.ws];exact wsOf_ok h.bk.lok
 have hwk:=(rwalk_pfn g.ws hws key k0 (by omega)).pf
 obtain ⟨l1,l2,l3⟩:=h.loads hb
 have hf40:=fl_le h.fs
 have ht40:=h.tok.2.1
 have hwl:(walkK g.ws key).length ≤ 12:=nodup_len 12 _ (walkM_nodup _ _) fun z hz => walkM_bd _ _ _ hz
 have hpk:=fun nf f0 f1 => pick_pf (walkK g.ws key) (loadsM g but) g.c.num g.c.den nf g.c.tries l2 l1 h.c.f f0 f1 h.c.w3.1 h.c.w3.2 hwl
 have hwe:walkM g.ws ((keyN key.toNat:Nat):Int)=walkK g.ws key:=rfl
 rw[hwe] at hwk
 have hfl1:0 ≤ but → 1 ≤ g.fl.length:=fun h0 => by
  rcases hb with hb | ⟨f,hf,_⟩
  ·omega
  ·exact List.length_pos_of_mem hf
 obtain ⟨P,hP⟩:∃ P,P=g.P:=⟨_,rfl⟩
 rw[← hP] at hlo ⊢
 have hP':=hP
 simp only[Gt.P,Gt.W,Gt.cells,List.cons_append,List.nil_append] at hP'
 have hPI:(fun z:Int => [I z])=PI:=rfl
 rw[hPI] at hwk
 unfold pickG
 generalize walkK g.ws key=wk at hwk hpk ⊢
 generalize loadsM g but=ls at hlo hpk ⊢
 refine pO gpick_code [0,1,2,6,7,8,10,28] [] fun B hBN hB0 => ?_
 by_cases b0:0 ≤ but
 ·have i1:InR ((g.fl.length:Int) - 1):=inW (by omega) (by omega)
  have hpk:=hpk ((g.fl.length:Int) - 1) (by have:=hfl1 b0;omega) (by omega)
  rw[if_pos b0]
  repeat' (first
   | simp[hP',b0,i1]
   | refine ⟨wcS ?_,?_⟩
   | (refine WCall.pf (hwk) ?_ ?_ ?_ ?_;iterate 3 (solve|simp[hP',b0,i1]))
   | (refine WCall.pf (hlo) ?_ ?_ ?_ ?_;iterate 3 (solve|simp[hP',b0,i1]))
   | (refine WCall.pf (hpk) ?_ ?_ ?_ ?_;iterate 3 (solve|simp[hP',b0,i1]))
   | with_reducible refine aI ?_ ?_ ?_)
  all_goals done
 ·have hpk:=hpk (g.fl.length:Int) (by omega) (by omega)
  rw[if_neg b0,Int.sub_zero]
  repeat' (first
   | simp[hP',b0]
   | refine ⟨wcS ?_,?_⟩
   | (refine WCall.pf (hwk) ?_ ?_ ?_ ?_;iterate 3 (solve|simp[hP',b0]))
   | (refine WCall.pf (hlo) ?_ ?_ ?_ ?_;iterate 3 (solve|simp[hP',b0]))
   | (refine WCall.pf (hpk) ?_ ?_ ?_ ?_;iterate 3 (solve|simp[hP',b0]))
   | with_reducible refine aI ?_ ?_ ?_)
  all_goals done
theorem gduel_code:cfun Tryz.prog [] 85=some ⟨(.seq (.seq (.draw 0 (qN (oM 9 0) (qN (oN 10 9) (qN (oF 11 0 10) (qN (oF 12 24 11) (qN (oA 13 2 12) (qN (oM 14 1) (qN (oN 15 14) (qN (oF 16 0 15) (qN (oF 17 0 16) (qN (oL 18 1 17) (.two (qN (oX 19 (.call 67 [(.t 13),(.t 18)])) (qN (oM 8 19) (qN (oE 20 8 0) (qN (oE 21 8 1) (qN (oX 6 (.alloc [qZ,.nil0])) (.one false (oS 2 6 20) (qN (oM 7 21) .done))))))) (.two (qN (oX 6 (.alloc [qZ,.nil0])) (qN (oX 19 (.call 67 [(.t 13),(.t 18)])) (qN (oM 8 19) (qN (oE 20 8 0) (qN (oE 21 8 1) (.one false (oS 2 6 20) (qN (oM 7 21) .done))))))) .top))))))))))))) (.seq (qR 1 [oM 22 7,oX 23 (.bin .eql (.t 22) (kI 0))]) (.cond 23 (qR 2 [oM 24 0,oA 25 2 6,oN 26 24,oF 27 0 26,oF 28 24 27,oS 2 28 25]) .skip))) (.seq (qR 3 [oM 29 1,oM 30 0,oN 31 30,oF 32 0 31,oF 33 16 32,oL 34 1 33,oM 35 2,oX 36 (.bin .add (.t 34) (.t 35)),oN 37 29,oF 38 6 37,oS 1 38 36]) (.draw 4 (qN (oM 40 0) (qN (oM 41 0) (qN (oN 42 41) (qN (oF 43 0 42) (qN (oF 44 24 43) (qN (oA 45 2 44) (qN (oM 46 1) (qN (oN 47 46) (qN (oF 48 0 47) (qN (oF 49 0 48) (qN (oL 50 1 49) (qN (oM 51 1) (qN (oN 52 51) (qN (oF 53 6 52) (qN (oL 54 1 53) (qN (oX 55 (.call 120 [(.t 45),(.t 50),(.t 54)])) (qN (oM 39 55) (qN (oE 56 39 0) (qN (oE 57 39 1) (qN (oN 58 40) (qN (oF 59 0 58) (qN (oF 60 24 59) (.one false (oS 2 60 56) .done)))))))))))))))))))))))))),[],61⟩:=by kernel_rfl
theorem gdueL_hf (g:Gt) (f:Flw) (span:Int) (h:DueOk g.now g.wn g.tm f.slot span) :
  HF Tryz.prog 85 [.ptr 0 0,.ptr 4 0,I span] ((4,.cells f.D) :: g.H 3) 5 (fun e H' nx' => e=.tup [] ∧ H'=(4,.cells { f with due:=g.now + span }.D) :: { g with tm:=armT g.tm f.slot (g.now + span) }.H 3 ∧ nx'=5):=by
 obtain ⟨hw,hwn,n0,n1,s0,s1,p0,p1⟩:=h
 refine HF.tidy (by omega) (by simp) (by simp) (by simp[Gt.H,Gt.cells,Flw.D]) ?_
 have hr:=hw.sub (fun t => decide (t.2 ≠ f.slot))
 have harm:=warmM g.now (rmT g.tm f.slot) hr (g.now + span,f.slot) (by simp only;omega) (fun x hx => rm_no _ _ x hx)
 have ii:InR (g.now + span):=inW (by omega) (by omega)
 simp only[whM_def] at harm
 unfold armT
 by_cases hx:∃ x ∈ g.tm,x.2=f.slot
 ·have hc:=wcanM g.now g.tm hw f.slot hx
  have hrm:(g.tm.filter fun t => decide (t.2 ≠ f.slot))=rmT g.tm f.slot:=rfl
  rw[hrm] at hc
  simp only[whM_def] at hc
  unfold Gt.H Gt.cells
  refine hO (h3:=by simp[Flw.D]) gduel_code [0,1,2,6,7,23] [] fun B hBN hB0 => ?_
  repeat' (first
   | simp[Flw.D,ii,hwn]
   | refine ⟨wcS ?_,?_⟩
   | (refine WCall.pf (hc) ?_ ?_ ?_ ?_;iterate 3 (solve|simp[Flw.D,ii,hwn]))
   | (refine WCall.pf (harm) ?_ ?_ ?_ ?_;iterate 3 (solve|simp[Flw.D,ii,hwn]))
   | with_reducible refine aI ?_ ?_ ?_)
  all_goals done
 ·have hx2:∀ x ∈ g.tm,x.2 ≠ f.slot:=fun x hx3 e => hx ⟨x,hx3,e⟩
  have hc:=wcan0M g.now g.tm hw f.slot hx2
  rw[rm_none hx2] at harm ⊢
  simp only[whM_def] at hc
  unfold Gt.H Gt.cells
  refine hO (h3:=by simp[Flw.D]) gduel_code [0,1,2,6,7,23] [] fun B hBN hB0 => ?_
  repeat' (first
   | simp[Flw.D,ii,hwn]
   | refine ⟨wcS ?_,?_⟩
   | (refine WCall.pf (hc) ?_ ?_ ?_ ?_;iterate 3 (solve|simp[Flw.D,ii,hwn]))
   | (refine WCall.pf (harm) ?_ ?_ ?_ ?_;iterate 3 (solve|simp[Flw.D,ii,hwn]))
   | with_reducible refine aI ?_ ?_ ?_)
  all_goals done
theorem gopen1_code:cfun Tryz.prog [] 81=some ⟨(.seq (qR 0 [oB 1 0,oX 2 (.mov (.k qF))]) (.seq (qR 1 [oF 3 1 1,oL 4 1 3,oX 5 (.not (.t 4)),oM 6 5,oG 7 (.fad 0 (.t 1)) 6 true,oG 8 (.load false 1 (.t 7)) 6 true,oG 9 (.bin .lss (.t 8) (kI 1048576)) 6 true,oX 10 (.pick (.t 6) (.t 9) (.k qF)),oM 2 10]) .ret)),[(.t 2)],11⟩:=by kernel_rfl
theorem gopen1_pf (s:TSlot):PF Tryz.prog 81 [.agg s.D] (.bool (tfree s)):=by
 refine pO (h3:=by simp[TSlot.D]) gopen1_code [0,1,2] [] fun B hBN hB0 => ?_
 cases hu:s.used with
 | true => simp[TSlot.D,tfree,hu]
 | false => simp[TSlot.D,tfree,hu]
theorem gopen_code:cfun Tryz.prog [82,86] 53=some ⟨(.seq (.seq (qR 0 [oM 11 0,oN 12 11,oF 13 0 12,oF 14 17 13,oF 15 0 14,oL 16 1 15,oX 17 (.call 80 [(.t 16),(.k (.fn 81 []))]),oX 18 (.not (.t 17))]) (.cond 18 (.seq (qR 1 [oM 19 0,oX 20 (.build [qZ,qZ,qZ,qZ,qZ,qZ,qZ] [(0,(1,(kI 2))),(5,(1,(kI 9)))]),oX 21 (.call 82 [(.t 19),(.t 20)])]) .ret) .skip)) (.seq (qR 2 [oM 23 0,oM 24 1,oX 25 (.call 83 [(.t 23),(.t 24),(kI (-1))]),oM 22 25,oE 26 22 0,oE 27 22 1,oM 4 26,oM 5 27]) (.seq (.seq (qR 3 [oM 28 5,oX 29 (.bin .neq (.t 28) (kI 0))]) (.cond 29 (.seq (qR 4 [oM 30 0,oX 31 (.build [qZ,qZ,qZ,qZ,qZ,qZ,qZ] [(0,(1,(kI 2))),(5,(1,(kI 11)))]),oX 32 (.call 82 [(.t 30),(.t 31)])]) .ret) .skip)) (.seq (qR 5 [oM 34 0,oN 35 34,oF 36 0 35,oF 37 17 36,oA 38 1 37,oM 39 1,oM 40 4,oX 41 (.call 84 [(.t 38),(.t 39),(.t 40)]),oM 33 41,oE 42 33 0,oE 43 33 1,oE 44 33 2,oX 6 (.alloc [.nil0]),oX 7 (.alloc [qZ,qZ]),oS 1 6 42,oS 2 7 43,oM 8 44]) (.seq (qR 6 [oM 45 0,oA 46 1 6,oN 47 45,oF 48 0 47,oF 49 17 48,oS 1 49 46]) (.seq (qR 7 [oA 50 2 7,oM 51 1,oM 52 4,oX 53 (.build [qZ,qZ,qZ,qZ,qF,qZ,qZ] [(0,(2,(.t 50))),(2,(1,(.t 51))),(3,(1,(.t 52)))]),oX 9 (.alloc [qZ,qZ,qZ,qZ,qF,qZ,qZ]),oS 7 9 53]) (.seq (qR 8 [oM 54 0,oM 55 0,oN 56 55,oF 57 0 56,oF 58 0 57,oF 59 7 58,oL 60 1 59,oX 61 (.call 85 [(.t 54),(.t 9),(.t 60)])]) (.seq (qR 9 [oK 10 0]) (.seq (.block 0 (.loop (.seq (.seq (.draw 10 (qN (oM 62 10) (qN (oM 63 0) (qN (oN 64 63) (qN (oF 65 0 64) (qN (oF 66 18 65) (qN (oL 67 1 66) (qN (oH 68 67) (qN (oX 69 (.bin .lss (.t 62) (.t 68))) (qN (oM 70 69) (qN (oG 71 (.mov (.t 0)) 70 true) (qN (oG 72 (.nchk (.t 71)) 70 true) (qN (oG 73 (.fad 0 (.t 72)) 70 true) (qN (oG 74 (.fad 18 (.t 73)) 70 true) (qN (oG 75 (.load false 1 (.t 74)) 70 true) (qN (oG 76 (.mov (.t 10)) 70 true) (qN (oG 77 (.iads 7 (.t 75) (.t 76)) 70 true) (qN (oG 78 (.fad 0 (.t 77)) 70 true) (qN (oG 79 (.fad 0 (.t 78)) 70 true) (qN (oG 80 (.load false 1 (.t 79)) 70 true) (qN (oG 81 (.fad 0 (.t 7)) 70 true) (qN (oG 82 (.load false 1 (.t 81)) 70 true) (qN (oG 83 (.bin .lss (.t 80) (.t 82)) 70 true) (qN (oX 84 (.pick (.t 70) (.t 83) (.k qF))) .done)))))))))))))))))))))))) (.cond 84 .skip (.exit 0))) (.block 1 (qR 11 [oM 85 10,oX 86 (.bin .add (.t 85) (kI 1)),oM 10 86]))))) (.seq (.draw 12 (qN (oM 87 0) (qN (oM 88 0) (qN (oN 89 88) (qN (oF 90 0 89) (qN (oF 91 18 90) (qN (oL 92 1 91) (qN (oM 93 10) (qN (oA 94 7 9) (qN (oX 95 (.bslice 7 1 [qZ,qZ,qZ,qZ,qF,qZ,qZ] [(0,(.t 94))])) (.one false (oX 96 (.call 86 [(.t 92),(.t 93),(.t 95)])) (qN (oN 97 87) (qN (oF 98 0 97) (qN (oF 99 18 98) (.one false (oS 1 99 96) .done))))))))))))))) (.seq (.draw 13 (qN (oM 101 0) (qN (oM 102 0) (qN (oN 103 102) (qN (oF 104 0 103) (qN (oF 105 0 104) (qN (oF 106 10 105) (qN (oA 107 3 106) (qN (oM 108 0) (qN (oN 109 108) (qN (oF 110 0 109) (qN (oF 111 23 110) (qN (oA 112 1 111) (qN (oX 113 (.call 66 [(.t 107),(.t 112)])) (qN (oM 100 113) (qN (oE 114 100 0) (qN (oE 115 100 1) (qN (oN 116 101) (qN (oF 117 0 116) (qN (oF 118 23 117) (.one false (oS 1 118 114) .done))))))))))))))))))))) (qR 14 [oM 119 0,oF 120 0 7,oL 121 1 120,oF 122 1 7,oL 123 1 122,oM 124 4,oX 125 (.build [qZ,qZ,qZ,qZ,qZ,qZ,qZ] [(0,(1,(kI 1))),(1,(1,(.t 121))),(2,(1,(.t 123))),(3,(1,(.t 124)))]),oX 126 (.call 82 [(.t 119),(.t 125)])])))))))))))),[],127⟩:=by kernel_rfl
theorem gopen_mf (g:Gt) (n:Nat) (key:Int) (h:Mid g n (-1)) (hn1:n + 1 ≤ 1000000) (k0:0 ≤ key) (k1:key ≤ 4294967295) (ho:g.out.length < 999998):MF Tryz.prog 53 [I key] g (g.opened key):=by
  have hf40:=fl_le h.fs
  have ht40:=h.tok.2.1
  have hcf:=tcf_pf g.tb 81 tfree (by omega) fun s _ => gopen1_pf s
  have hfz:idxZ tfree g.tb=freeZ g.tb:=rfl
  rw[hfz] at hcf
  unfold Gt.opened
  by_cases c1:freeZ g.tb < 0
  · rw[if_pos c1]
    have hput:=gput_mo g ⟨2, 0, 0, 0, 0, 9, 0⟩ (by omega)
    simp only[MO, Gt.put, Gt.H, Gt.cells, Outp.D, List.map_append, List.map_cons, List.map_nil, List.cons_append, List.nil_append] at hput
    rw[decide_eq_false (by omega)] at hcf
    refine MF.of ?_
    unfold Gt.H Gt.cells
    refine hO gopen_code [0, 1, 4, 5, 6, 7, 9, 10, 18, 29, 84] [] fun B hBN hB0 => ?_
    repeat' (first
      | simp
      | refine ⟨wcS ?_, ?_⟩
      | (refine WCall.pf (hcf) ?_ ?_ ?_ ?_; iterate 3 (solve|simp))
      | with_reducible refine aI ?_ ?_ ?_)
    refine wH [0, 1, 2, 3] (hput) ?_
    rintro d H' nx' ⟨rfl, rfl, rfl⟩
    simp[Gt.put, Outp.D, Gt.cells]
    exact ⟨4, by simp, 1, by simp⟩
  rw[if_neg c1]
  rw[decide_eq_true (by omega)] at hcf
  have hbut:ButOk g (-1):=.inl (by omega)
  have hpk:=gpick_pf g n (-1) key (-1) h hbut k0 k1
  have hpB:=fun hp => h.pickedB (key:=key) (but:=-1) hbut hp
  simp only[Gt.P, Gt.W, Gt.cells, List.cons_append, List.nil_append] at hpk
  by_cases p0:(pickG g key (-1)).2=0
  · rw[if_neg (fun hh => hh p0)]
    obtain ⟨q2, q0, q1⟩:=hpB p0
    rw[p0] at hpk
    generalize (pickG g key (-1)).1=pb at hpk q2 q0 q1 ⊢
    clear hpB p0
    obtain ⟨f1, f2, _⟩:=free_at c1
    have hput0:=tput_pf g.tb key pb h.tok k0 k1 q0 q1
    have hpe:putM g.tb key pb=(g.tb.set (freeZ g.tb).toNat ⟨(g.tb.getD (freeZ g.tb).toNat tzero).gen, true, key, pb⟩, freeZ g.tb, (g.tb.getD (freeZ g.tb).toNat tzero).gen, 0):=by
      unfold putM; rw[hfz, if_neg c1]
    rw[hpe] at hput0
    obtain ⟨s, hs⟩:∃ s:Nat, freeZ g.tb=s:=⟨(freeZ g.tb).toNat, by omega⟩
    rw[hs, Int.toNat_natCast] at hput0
    rw[hs, Int.toNat_natCast] at f1 f2 ⊢
    clear hpe hfz hcf
    have hcf:=tcf_pf g.tb 81 tfree (by omega) fun s _ => gopen1_pf s
    rw[decide_eq_true (show 0 ≤ idxZ tfree g.tb by show 0 ≤ freeZ g.tb; omega)] at hcf
    unfold Gt.taken
    obtain ⟨gen, hgen⟩:∃ gen, gen=(g.tb.getD s tzero).gen:=⟨_, rfl⟩
    simp only[← hgen] at hput0 ⊢
    have hd0:=gdueL_hf { g with tb:=g.tb.set s ⟨gen, true, key, pb⟩ } ⟨s, gen, key, pb, false, 0, 0⟩ g.c.c7 ⟨h.wh, h.wn, h.n0, by have:=h.n1; have:=h.nn; show g.now ≤ _; omega, by simp, by show (s:Int) < 200; omega, h.c.w7.1, h.c.w7.2⟩
    have hp2:=gput_mo { g with tb:=g.tb.set s ⟨gen, true, key, pb⟩, fl:=insF g.fl ⟨s, gen, key, pb, false, 0, g.now + g.c.c7⟩, tm:=armT g.tm s (g.now + g.c.c7), tok:=min (g.tok + g.c.bud.num) g.c.bud.full } ⟨1, s, gen, pb, 0, 0, 0⟩ (by show g.out.length ≤ _; omega)
    have hern:=bearn_pf g.c.bud g.tok h.c.b h.tk0 h.tk1
    simp only[Budget.D] at hern
    simp only[Gt.H, Gt.cells, List.cons_append, List.nil_append] at hd0
    simp only[MO, Gt.put, Gt.H, Gt.cells, Outp.D, List.map_append, List.map_cons, List.map_nil, List.cons_append, List.nil_append] at hp2
    obtain ⟨p, hp⟩:∃ p, p=posF g.fl (s:Int):=⟨_, rfl⟩
    have hple:p ≤ g.fl.length:=hp ▸ lowB_le _ _
    have hplt:∀ j (hj:j < g.fl.length), j < p → g.fl[j].slot < s:=fun j hj hjp => by
      have:=lowB_lt (fun f:Flw => decide (f.slot < (s:Int))) g.fl j hj (by rw[hp] at hjp; exact hjp)
      simpa using this
    have hpge:∀ (hj:p < g.fl.length), ¬ g.fl[p].slot < s:=fun hj => by
      subst hp
      exact of_decide_eq_false (lowB_ge (fun f:Flw => decide (f.slot < (s:Int))) g.fl hj)
    have hins:=fins_hf (g.fl.map Flw.D) p [I s, I gen, I key, I pb, .bool false, I 0, I (g.now + g.c.c7)] (by simpa using hple) (by simp; omega) rfl (els_flw g.fl).rows (els_flw g.fl).isT (by simp)
    have hie:(g.fl.map Flw.D).take p ++ [[I s, I gen, I key, I pb, .bool false, I 0, I (g.now + g.c.c7)]] ++ (g.fl.map Flw.D).drop p=(insF g.fl ⟨s, gen, key, pb, false, 0, g.now + g.c.c7⟩).map Flw.D:=by
      unfold insF; simp only[← hp, List.map_append, List.map_take, List.map_drop]; rfl
    rw[hie] at hins
    clear hie
    refine MF.of ?_
    generalize insF g.fl ⟨s, gen, key, pb, false, 0, g.now + g.c.c7⟩=FL at hins hp2 ⊢
    generalize g.tb.set s ⟨gen, true, key, pb⟩=TB at hput0 hd0 hp2 ⊢
    generalize armT g.tm s (g.now + g.c.c7)=TM at hd0 hp2 ⊢
    generalize min (g.tok + g.c.bud.num) g.c.bud.full=TK at hern hp2 ⊢
    simp only[Flw.D] at hd0
    unfold Gt.H Gt.cells
    refine hO gopen_code [0, 1, 4, 5, 6, 7, 9, 10, 18, 29, 84] [] fun B hBN hB0 => ?_
    repeat' (first
      | simp
      | refine ⟨wcS ?_, ?_⟩
      | (refine WCall.pf (hcf) ?_ ?_ ?_ ?_; iterate 3 (solve|simp))
      | (refine WCall.pf (hpk) ?_ ?_ ?_ ?_; iterate 3 (solve|simp))
      | (refine WCall.pf (hput0) ?_ ?_ ?_ ?_; iterate 3 (solve|simp))
      | with_reducible refine aI ?_ ?_ ?_)
    refine wH [0, 1, 2, 3, 6] (hd0) ?_
    rintro d H' nx' ⟨rfl, rfl, rfl⟩
    simp
    refine W.loopS (fun y:Nat => ⟨[(10, I y), (9, .ptr 5 0), (7, .ptr 4 0), (4, I pb), (0, .ptr 0 0)],
      [(5, .cells [I s, I gen, I key, I pb, .bool false, I 0, I (g.now + g.c.c7)]), (4, .cells [I s, I gen]), (3, .row 7 (g.out.map Outp.D)), (2, .row 4 (g.hl.map Hlth.D)), (1, .row 7 (g.fl.map Flw.D)),
       (0, .cells [I g.c.slots, I g.c.num, I g.c.den, I g.c.tries, I g.c.c4, I g.c.c5, I g.c.c6, I g.c.c7, I g.c.c8, I g.c.c9, I g.c.bud.num, I g.c.bud.den, I g.c.bud.burst, I g.c.wat.window, I g.c.wat.fails, I g.c.wat.hold,
   I g.now, .rows 4 (TB.map TSlot.D), .own 1, .rows 6 (g.L.map Lif.D), .rows 5 (g.R.map Rqs.D), .rows 2 ((ringM g.ws).map spE), .own 2, I g.tok, I g.wn, .rows 1 (lrT g.wn TM), .own 3])], 6⟩)
      (fun m i => m=p - i ∧ i ≤ p) ?_ ?_
    · exact ⟨_, 0, (Gh.ren [0, 1, 2, 3, 5, 6] (by simp[hB0]) (by simp[hB0] <;> decide) (by simp) (by simp) (.inl (by simp))), rfl, by omega⟩
    rintro m i ⟨hm, hi⟩
    refine acode_sound [0, 1, 4, 5, 6, 7, 9, 10, 18, 29, 84] [] _ _ _ ?_
    by_cases hlt:i < p
    · have hil:i < g.fl.length:=by omega
      have hsl:=hplt i hil hlt
      obtain ⟨x, hx⟩:∃ x, x=g.fl[i]:=⟨_, rfl⟩
      rw[← hx] at hsl
      have ii:InR ((i:Int) + 1):=inW (by omega) (by omega)
      simp[hil, ← hx, Flw.D, hsl, ii]
      exact ⟨_, i + 1, (Gh.ren [0, 1, 2, 3, 4, 5] (by simp[hB0]) (by simp[hB0] <;> decide) (by simp) (by simp) (.inl (by simp))), by omega, rfl, by omega⟩
    · obtain rfl:i=p:=by omega
      by_cases hil:i < g.fl.length
      · have hsl:=hpge hil
        obtain ⟨x, hx⟩:∃ x, x=g.fl[i]:=⟨_, rfl⟩
        rw[← hx] at hsl
        simp[hil, ← hx, Flw.D, hsl]
        refine wH [1, 6] (hins) ?_
        rintro d H' nx' ⟨rfl, rfl, rfl⟩
        repeat' (first
          | simp
          | refine ⟨wcS ?_, ?_⟩
          | (refine WCall.pf (hern) ?_ ?_ ?_ ?_; iterate 3 (solve|simp))
          | with_reducible refine aI ?_ ?_ ?_)
        refine wH [0, 7, 2, 3] (hp2) ?_
        rintro d H' nx' ⟨rfl, rfl, rfl⟩
        simp
        exact ⟨8, by simp[Outp.D], 7, by simp⟩
      · have hz:i=g.fl.length:=by omega
        have hnn:g.fl[i]? = none:=List.getElem?_eq_none (by omega)
        simp[hil, hnn]
        refine wH [1, 6] (hins) ?_
        rintro d H' nx' ⟨rfl, rfl, rfl⟩
        repeat' (first
          | simp
          | refine ⟨wcS ?_, ?_⟩
          | (refine WCall.pf (hern) ?_ ?_ ?_ ?_; iterate 3 (solve|simp))
          | with_reducible refine aI ?_ ?_ ?_)
        refine wH [0, 7, 2, 3] (hp2) ?_
        rintro d H' nx' ⟨rfl, rfl, rfl⟩
        simp
        exact ⟨8, by simp[Outp.D], 7, by simp⟩
  · rw[if_pos p0]
    have hput:=gput_mo g ⟨2, 0, 0, 0, 0, 11, 0⟩ (by omega)
    simp only[MO, Gt.put, Gt.H, Gt.cells, Outp.D, List.map_append, List.map_cons, List.map_nil, List.cons_append, List.nil_append] at hput
    generalize pickG g key (-1)=pk at hpk p0
    obtain ⟨pb, pe⟩:=pk
    simp only at hpk p0
    refine MF.of ?_
    unfold Gt.H Gt.cells
    refine hO gopen_code [0, 1, 4, 5, 6, 7, 9, 10, 18, 29, 84] [] fun B hBN hB0 => ?_
    repeat' (first
      | simp[p0]
      | refine ⟨wcS ?_, ?_⟩
      | (refine WCall.pf (hcf) ?_ ?_ ?_ ?_; iterate 3 (solve|simp[p0]))
      | (refine WCall.pf (hpk) ?_ ?_ ?_ ?_; iterate 3 (solve|simp[p0]))
      | with_reducible refine aI ?_ ?_ ?_)
    refine wH [0, 1, 2, 3] (hput) ?_
    rintro d H' nx' ⟨rfl, rfl, rfl⟩
    simp[Gt.put, Outp.D, Gt.cells]
    exact ⟨4, by simp, 1, by simp⟩
theorem due_set (g:Gt) (i:Nat) (hi:i < g.fl.length) (F:Flw) (z:Int):Gt.dueA { g with fl:=g.fl.set i F } i z={ g with fl:=g.fl.set i { F with due:=z },tm:=armT g.tm F.slot z }:=by
 unfold Gt.dueA
 simp only[getD_set,hi,and_self,if_true,List.set_set]
theorem gfailed_code:cfun Tryz.prog [82] 97=some ⟨(.seq (qR 0 [oM 11 0,oN 12 11,oF 13 0 12,oF 14 18 13,oL 15 1 14,oM 16 1,oI 17 7 15 16,oM 6 17]) (.seq (qR 1 [oM 18 0,oM 19 6,oN 20 19,oF 21 3 20,oL 22 1 21,oX 23 (.call 99 [(.t 18),(.t 22),(.k qT)])]) (.seq (.draw 2 (qN (oM 25 0) (qN (oN 26 25) (qN (oF 27 0 26) (qN (oF 28 0 27) (qN (oF 29 10 28) (qN (oA 30 3 29) (qN (oM 31 0) (qN (oN 32 31) (qN (oF 33 0 32) (qN (oF 34 23 33) (qN (oA 35 1 34) (.two (qN (oX 36 (.call 141 [(.t 30),(.t 35)])) (qN (oM 24 36) (qN (oE 37 24 0) (qN (oE 38 24 1) (qN (oX 7 (.alloc [qZ])) (.one false (oS 1 7 37) (qN (oM 8 38) .done))))))) (.two (qN (oX 7 (.alloc [qZ])) (qN (oX 36 (.call 141 [(.t 30),(.t 35)])) (qN (oM 24 36) (qN (oE 37 24 0) (qN (oE 38 24 1) (.one false (oS 1 7 37) (qN (oM 8 38) .done))))))) .top)))))))))))))) (.seq (.seq (.draw 3 (qN (oM 39 6) (qN (oN 40 39) (qN (oF 41 5 40) (qN (oL 42 1 41) (qN (oM 43 0) (qN (oN 44 43) (qN (oF 45 0 44) (qN (oF 46 0 45) (qN (oF 47 8 46) (qN (oL 48 1 47) (qN (oX 49 (.bin .eql (.t 42) (.t 48))) (qN (oM 50 49) (qN (oG 51 (.mov (.t 8)) 50 false) (qN (oG 52 (.bin .neq (.t 51) (kI 0)) 50 false) (qN (oX 53 (.pick (.t 50) (.k qT) (.t 52))) .done)))))))))))))))) (.cond 53 (.seq (qR 4 [oM 54 0,oM 55 1,oM 56 2,oX 57 (.build [qZ,qZ,qZ,qZ,qZ,qZ,qZ] [(0,(1,(kI 6))),(6,(1,(.t 56)))]),oX 58 (.call 96 [(.t 54),(.t 55),(.t 57)])]) .ret) .skip)) (.seq (.draw 5 (qN (oM 60 0) (qN (oM 61 6) (qN (oN 62 61) (qN (oF 63 2 62) (qN (oL 64 1 63) (qN (oM 65 6) (qN (oN 66 65) (qN (oF 67 0 66) (qN (oF 68 0 67) (qN (oL 69 1 68) (qN (oX 70 (.call 83 [(.t 60),(.t 64),(.t 69)])) (qN (oM 59 70) (qN (oE 71 59 0) (qN (oE 72 59 1) (qN (oM 9 71) (qN (oM 8 72) .done))))))))))))))))) (.seq (.seq (qR 6 [oM 73 8,oX 74 (.bin .neq (.t 73) (kI 0))]) (.cond 74 (.seq (qR 7 [oM 75 0,oM 76 1,oX 77 (.build [qZ,qZ,qZ,qZ,qZ,qZ,qZ] [(0,(1,(kI 6))),(6,(1,(kI 4)))]),oX 78 (.call 96 [(.t 75),(.t 76),(.t 77)])]) .ret) .skip)) (.seq (qR 8 [oM 79 6,oN 80 79,oF 81 3 80,oL 82 1 81,oM 10 82]) (.seq (qR 9 [oM 83 0,oA 84 1 7,oN 85 83,oF 86 0 85,oF 87 23 86,oS 1 87 84]) (.seq (.draw 10 (qN (oM 89 0) (qN (oM 90 0) (qN (oN 91 90) (qN (oF 92 0 91) (qN (oF 93 17 92) (qN (oA 94 1 93) (qN (oM 95 6) (qN (oN 96 95) (qN (oF 97 0 96) (qN (oA 98 2 97) (qN (oM 99 9) (qN (oX 100 (.call 142 [(.t 94),(.t 98),(.t 99)])) (qN (oM 88 100) (qN (oE 101 88 0) (qN (oE 102 88 1) (qN (oN 103 89) (qN (oF 104 0 103) (qN (oF 105 17 104) (.one false (oS 1 105 101) .done)))))))))))))))))))) (.seq (qR 11 [oM 106 6,oM 107 9,oN 108 106,oF 109 3 108,oS 1 109 107]) (.seq (qR 12 [oM 110 6,oN 111 110,oF 112 5 111,oL 113 1 112,oX 114 (.bin .add (.t 113) (kI 1)),oN 115 110,oF 116 5 115,oS 1 116 114]) (.seq (qR 13 [oM 117 0,oM 118 6,oM 119 0,oN 120 119,oF 121 0 120,oF 122 0 121,oF 123 7 122,oL 124 1 123,oX 125 (.call 85 [(.t 117),(.t 118),(.t 124)])]) (.seq (.draw 14 (qN (oM 126 0) (qN (oM 127 6) (qN (oN 128 127) (qN (oF 129 0 128) (qN (oF 130 0 129) (qN (oL 131 1 130) (qN (oM 132 6) (qN (oN 133 132) (qN (oF 134 0 133) (qN (oF 135 1 134) (qN (oL 136 1 135) (qN (oM 137 9) (qN (oX 138 (.build [qZ,qZ,qZ,qZ,qZ,qZ,qZ] [(0,(1,(kI 5))),(1,(1,(.t 131))),(2,(1,(.t 136))),(3,(1,(.t 137)))])) (.one false (oX 139 (.call 82 [(.t 126),(.t 138)])) .done))))))))))))))) (.seq (qR 15 [oM 140 10,oM 141 9,oX 142 (.bin .neq (.t 140) (.t 141))]) (.cond 142 (qR 16 [oM 143 0,oM 144 10,oX 145 (.call 90 [(.t 143),(.t 144)])]) .skip))))))))))))))),[],146⟩:=by kernel_rfl
theorem gfailed_mf (g:Gt) (n:Nat) (i:Nat) (why:Int) (h:Mid g n (-1)) (hi:i < g.fl.length) (hsv:g.fl[i].serving=false) (ho:g.out.length < 999998) :
  MF Tryz.prog 97 [I i,I why] g (g.failed i why):=by
 have hm:=List.getElem_mem hi
 have hfl:=h.flow hm
 have hg:=getD_at (default:Flw) hi
 have hfe:=h.fe _ hm
 have hgf:=get_flow h hm
 obtain ⟨f,hf⟩:∃ f,f=g.fl[i]:=⟨_,rfl⟩
 rw[← hf] at hfl hg hfe hsv hgf hm
 have hnote:MK Tryz.prog 99 [I f.backend,.bool true] g (g.note f.backend true):=gnote_mk g n (-1) g.fl f.backend true h (by omega) (by omega)
 have hM1:=h.note f.backend (by omega) true
 obtain ⟨HL,hHL⟩:∃ HL,g.note f.backend true={ g with hl:=HL }:=⟨_,rfl⟩
 have hF:g.failed i why=if f.tries=g.c.c8 ∨ g.tok < g.c.bud.den then Gt.drop { g with hl:=HL } i (resetO why) else if (pickG { g with hl:=HL } f.key f.slot).2 ≠ 0 then Gt.drop { g with hl:=HL } i (resetO 4)
   else if f.backend ≠ (pickG { g with hl:=HL } f.key f.slot).1 then (Gt.moved { g with hl:=HL } i (pickG { g with hl:=HL } f.key f.slot).1 (g.tok - g.c.bud.den)).spared f.backend else Gt.moved { g with hl:=HL } i (pickG { g with hl:=HL } f.key f.slot).1 (g.tok - g.c.bud.den):=by
  unfold Gt.failed;simp only[hg,hHL]
 rw[hF]
 clear hF
 rw[hHL] at hnote hM1
 clear hHL
 have hspd:=bspend_pf g.c.bud g.tok h.c.b h.tk0 h.tk1
 unfold bspendE at hspd
 simp only[Budget.D] at hspd
 simp only[MK,Gt.H,Gt.cells,List.cons_append,List.nil_append] at hnote
 by_cases t1:g.tok < g.c.bud.den
 ·rw[if_pos (.inr t1)]
  rw[if_pos t1] at hspd
  have hdrop:=gdrop_mf { g with hl:=HL } n i (resetO why) hM1 hi (by show g.out.length < _;omega)
  refine MF.of ?_
  generalize Gt.drop { g with hl:=HL } i (resetO why)=G at hdrop ⊢
  simp only[MF,Gt.H5,Gt.H,Gt.cells,resetO,Outp.D,List.cons_append,List.nil_append] at hdrop
  unfold Gt.H Gt.cells
  refine hO gfailed_code [0,1,2,6,7,8,9,10,53,74,142] [] fun B hBN hB0 => ?_
  simp[hi,← hf,Flw.D]
  refine wH [0,1,2,3] (hnote) ?_
  rintro d H' nx' ⟨rfl,rfl,rfl⟩
  by_cases t2:f.tries=g.c.c8
  ·skip
   repeat' (first
    | simp[hi,← hf,Flw.D,t2]
    | refine ⟨wcS ?_,?_⟩
    | (refine WCall.pf (hspd) ?_ ?_ ?_ ?_;iterate 3 (solve|simp[hi,← hf,Flw.D,t2]))
    | with_reducible refine aI ?_ ?_ ?_)
   all_goals
    refine wH [0,1,2,3] (hdrop) ?_
    rintro d H' nx' ⟨rfl,rfl,rfl⟩
    simp
    exact ⟨6,by simp,5,by simp⟩
  ·skip
   repeat' (first
    | simp[hi,← hf,Flw.D,t2]
    | refine ⟨wcS ?_,?_⟩
    | (refine WCall.pf (hspd) ?_ ?_ ?_ ?_;iterate 3 (solve|simp[hi,← hf,Flw.D,t2]))
    | with_reducible refine aI ?_ ?_ ?_)
   all_goals
    refine wH [0,1,2,3] (hdrop) ?_
    rintro d H' nx' ⟨rfl,rfl,rfl⟩
    simp
    exact ⟨6,by simp,5,by simp⟩
 rw[if_neg t1] at hspd
 by_cases t2:f.tries=g.c.c8
 ·rw[if_pos (.inl t2)]
  have hdrop:=gdrop_mf { g with hl:=HL } n i (resetO why) hM1 hi (by show g.out.length < _;omega)
  refine MF.of ?_
  generalize Gt.drop { g with hl:=HL } i (resetO why)=G at hdrop ⊢
  simp only[MF,Gt.H5,Gt.H,Gt.cells,resetO,Outp.D,List.cons_append,List.nil_append] at hdrop
  unfold Gt.H Gt.cells
  refine hO gfailed_code [0,1,2,6,7,8,9,10,53,74,142] [] fun B hBN hB0 => ?_
  simp[hi,← hf,Flw.D]
  refine wH [0,1,2,3] (hnote) ?_
  rintro d H' nx' ⟨rfl,rfl,rfl⟩
  repeat' (first
   | simp[hi,← hf,Flw.D,t2]
   | refine ⟨wcS ?_,?_⟩
   | (refine WCall.pf (hspd) ?_ ?_ ?_ ?_;iterate 3 (solve|simp[hi,← hf,Flw.D,t2]))
   | with_reducible refine aI ?_ ?_ ?_)
  all_goals
   refine wH [0,1,2,3] (hdrop) ?_
   rintro d H' nx' ⟨rfl,rfl,rfl⟩
   simp
   exact ⟨6,by simp,5,by simp⟩
 rw[if_neg (by omega)]
 have hpk:=gpick_pf { g with hl:=HL } n (-1) f.key f.slot hM1 (.inr ⟨f,hm,rfl⟩) (by omega) (by omega)
 have hpB:=fun hp => hM1.pickedB (key:=f.key) (but:=f.slot) (.inr ⟨f,hm,rfl⟩) hp
 simp only[Gt.P,Gt.W,Gt.cells,List.cons_append,List.nil_append] at hpk
 by_cases p0:(pickG { g with hl:=HL } f.key f.slot).2=0
 ·rw[if_neg (fun hh => hh p0)]
  obtain ⟨q2,q0,q1⟩:=hpB p0
  rw[p0] at hpk
  generalize (pickG { g with hl:=HL } f.key f.slot).1=pb at hpk q2 q0 q1 ⊢
  clear hpB p0
  have htk:0 ≤ g.tok - g.c.bud.den:=by omega
  have hbd:=h.c.b
  unfold Budget.Ok at hbd
  have hk1:=h.tk1
  have hmv:=hM1.moved (i:=i) (b:=pb) (tok:=g.tok - g.c.bud.den) hi q2 q0 q1 htk (by show g.tok - g.c.bud.den ≤ g.c.bud.full;omega) (by rw[hg];exact t2) (by rw[hg];exact hsv)
  rw[hg] at hmv
  have htm:=tmove_pf g.tb f.slot f.gen pb h.tok q0 q1
  have e2:moveM g.tb f.slot f.gen pb=(g.tb.set f.slot.toNat ⟨f.gen,true,f.key,pb⟩,0):=by unfold moveM;rw[hgf];rfl
  rw[e2] at htm
  have hd0:=gdue_mk { g with hl:=HL,tok:=g.tok - g.c.bud.den,tb:=g.tb.set f.slot.toNat ⟨f.gen,true,f.key,pb⟩,fl:=g.fl.set i { f with backend:=pb,tries:=f.tries + 1 } } i g.c.c7 (by simpa using hi)
   ⟨h.wh,h.wn,h.n0,by have:=h.n1;have:=h.nn;show g.now ≤ _;omega,by simp;omega,by simp;have:=h.tok.2.1;omega,h.c.w7.1,h.c.w7.2⟩
  have e3:=due_set { g with hl:=HL,tok:=g.tok - g.c.bud.den,tb:=g.tb.set f.slot.toNat ⟨f.gen,true,f.key,pb⟩ } i hi { f with backend:=pb,tries:=f.tries + 1 } (g.now + g.c.c7)
  simp only at e3 hd0
  rw[e3] at hd0
  have hput:=gput_mo { g with hl:=HL,tok:=g.tok - g.c.bud.den,tb:=g.tb.set f.slot.toNat ⟨f.gen,true,f.key,pb⟩,fl:=g.fl.set i { f with backend:=pb,tries:=f.tries + 1,due:=g.now + g.c.c7 },tm:=armT g.tm f.slot (g.now + g.c.c7) } ⟨5,f.slot,f.gen,pb,0,0,0⟩ (by show g.out.length ≤ _;omega)
  have eM:Gt.moved { g with hl:=HL } i pb (g.tok - g.c.bud.den)={ g with hl:=HL,tok:=g.tok - g.c.bud.den,tb:=g.tb.set f.slot.toNat ⟨f.gen,true,f.key,pb⟩,fl:=g.fl.set i { f with backend:=pb,tries:=f.tries + 1,due:=g.now + g.c.c7 },tm:=armT g.tm f.slot (g.now + g.c.c7),out:=g.out ++ [⟨5,f.slot,f.gen,pb,0,0,0⟩] }:=by
   unfold Gt.moved;simp only[hg]
  have hsp:=gspar_mo _ n f.backend hmv (by rw[eM];simp;omega)
  rw[eM] at hsp ⊢
  have it:InR (f.tries + 1):=inW (by omega) (by have:=h.c.w8;omega)
  clear hmv eM e3 e2 hM1 q2
  generalize g.tb.set f.slot.toNat ⟨f.gen,true,f.key,pb⟩=TB at *
  generalize armT g.tm f.slot (g.now + g.c.c7)=TM at *
  by_cases hne:f.backend=pb
  ·rw[if_neg (fun hh => hh hne)]
   clear hsp
   refine MF.of ?_
   simp only[MK,MO,Gt.put,Gt.H,Gt.cells,Outp.D,List.map_append,List.map_cons,List.map_nil,List.map_set,List.cons_append,List.nil_append,Flw.D] at hd0 hput
   unfold Gt.H Gt.cells
   refine hO gfailed_code [0,1,2,6,7,8,9,10,53,74,142] [] fun B hBN hB0 => ?_
   simp[hi,← hf,Flw.D]
   refine wH [0,1,2,3] (hnote) ?_
   rintro d H' nx' ⟨rfl,rfl,rfl⟩
   repeat' (first
    | simp[hi,← hf,Flw.D,t2,it]
    | refine ⟨wcS ?_,?_⟩
    | (refine WCall.pf (hspd) ?_ ?_ ?_ ?_;iterate 3 (solve|simp[hi,← hf,Flw.D,t2,it]))
    | (refine WCall.pf (hpk) ?_ ?_ ?_ ?_;iterate 3 (solve|simp[hi,← hf,Flw.D,t2,it]))
    | (refine WCall.pf (htm) ?_ ?_ ?_ ?_;iterate 3 (solve|simp[hi,← hf,Flw.D,t2,it]))
    | with_reducible refine aI ?_ ?_ ?_)
   all_goals
    refine wH [0,1,2,3] (hd0) ?_
    rintro d H' nx' ⟨rfl,rfl,rfl⟩
    simp[hi]
    refine wH [0,1,2,3] (hput) ?_
    rintro d H' nx' ⟨rfl,rfl,rfl⟩
    simp[hne,Outp.D,Flw.D]
    exact ⟨5,by simp,1,by simp⟩
  ·rw[if_pos hne]
   refine MF.of ?_
   generalize Gt.spared _ f.backend=G at hsp ⊢
   simp only[MK,MO,Gt.put,Gt.H,Gt.cells,Outp.D,List.map_append,List.map_cons,List.map_nil,List.map_set,List.cons_append,List.nil_append,Flw.D] at hd0 hput hsp
   unfold Gt.H Gt.cells
   refine hO gfailed_code [0,1,2,6,7,8,9,10,53,74,142] [] fun B hBN hB0 => ?_
   simp[hi,← hf,Flw.D]
   refine wH [0,1,2,3] (hnote) ?_
   rintro d H' nx' ⟨rfl,rfl,rfl⟩
   repeat' (first
    | simp[hi,← hf,Flw.D,t2,it]
    | refine ⟨wcS ?_,?_⟩
    | (refine WCall.pf (hspd) ?_ ?_ ?_ ?_;iterate 3 (solve|simp[hi,← hf,Flw.D,t2,it]))
    | (refine WCall.pf (hpk) ?_ ?_ ?_ ?_;iterate 3 (solve|simp[hi,← hf,Flw.D,t2,it]))
    | (refine WCall.pf (htm) ?_ ?_ ?_ ?_;iterate 3 (solve|simp[hi,← hf,Flw.D,t2,it]))
    | with_reducible refine aI ?_ ?_ ?_)
   all_goals
    refine wH [0,1,2,3] (hd0) ?_
    rintro d H' nx' ⟨rfl,rfl,rfl⟩
    simp[hi]
    refine wH [0,1,2,3] (hput) ?_
    rintro d H' nx' ⟨rfl,rfl,rfl⟩
    simp[hne]
    refine wH [0,1,2,5] (hsp) ?_
    rintro d H' nx' ⟨rfl,rfl,rfl⟩
    simp
    exact ⟨6,by simp,1,by simp⟩
 ·rw[if_pos p0]
  have hdrop:=gdrop_mf { g with hl:=HL } n i (resetO 4) hM1 hi (by show g.out.length < _;omega)
  refine MF.of ?_
  generalize Gt.drop { g with hl:=HL } i (resetO 4)=G at hdrop ⊢
  generalize pickG { g with hl:=HL } f.key f.slot=pk at hpk p0
  obtain ⟨pb,pe⟩:=pk
  simp only at hpk p0
  simp only[MF,Gt.H5,Gt.H,Gt.cells,resetO,Outp.D,List.cons_append,List.nil_append] at hdrop
  unfold Gt.H Gt.cells
  refine hO gfailed_code [0,1,2,6,7,8,9,10,53,74,142] [] fun B hBN hB0 => ?_
  simp[hi,← hf,Flw.D]
  refine wH [0,1,2,3] (hnote) ?_
  rintro d H' nx' ⟨rfl,rfl,rfl⟩
  repeat' (first
   | simp[hi,← hf,Flw.D,t2,p0]
   | refine ⟨wcS ?_,?_⟩
   | (refine WCall.pf (hspd) ?_ ?_ ?_ ?_;iterate 3 (solve|simp[hi,← hf,Flw.D,t2,p0]))
   | (refine WCall.pf (hpk) ?_ ?_ ?_ ?_;iterate 3 (solve|simp[hi,← hf,Flw.D,t2,p0]))
   | with_reducible refine aI ?_ ?_ ?_)
  all_goals
   refine wH [0,1,2,3] (hdrop) ?_
   rintro d H' nx' ⟨rfl,rfl,rfl⟩
   simp
   exact ⟨6,by simp,5,by simp⟩
theorem due_at (g:Gt) (i:Nat) (hi:i < g.fl.length) (z:Int):g.dueA i z={ g with fl:=g.fl.set i { g.fl[i] with due:=z },tm:=armT g.tm g.fl[i].slot z }:=by
 unfold Gt.dueA
 simp only[getD_at _ hi]
theorem gflow_code:cfun Tryz.prog [82] 56=some ⟨(.seq (qR 0 [oB 3 1]) (.seq (.seq (.draw 1 (qN (oM 10 0) (qN (oN 11 10) (qN (oF 12 0 11) (qN (oF 13 17 12) (qN (oA 14 1 13) (qN (oF 15 2 3) (qN (oL 16 1 15) (qN (oF 17 3 3) (qN (oL 18 1 17) (qN (oX 19 (.build [qZ,qZ] [(0,(1,(.t 16))),(1,(1,(.t 18)))])) (.two (qN (oX 20 (.call 33 [(.t 14),(.t 19)])) (qN (oM 9 20) (qN (oE 21 9 0) (qN (oE 22 9 1) (qN (oX 4 (.alloc [qZ,qF,qZ,qZ])) (.one false (oS 4 4 21) (qN (oM 5 22) .done))))))) (.two (qN (oX 4 (.alloc [qZ,qF,qZ,qZ])) (qN (oX 20 (.call 33 [(.t 14),(.t 19)])) (qN (oM 9 20) (qN (oE 21 9 0) (qN (oE 22 9 1) (.one false (oS 4 4 21) (qN (oM 5 22) .done))))))) .top))))))))))))) (.seq (qR 2 [oM 23 5,oX 24 (.bin .neq (.t 23) (kI 0))]) (.cond 24 (.seq (qR 3 [oM 25 0,oM 26 5,oX 27 (.build [qZ,qZ,qZ,qZ,qZ,qZ,qZ] [(0,(1,(kI 10))),(5,(1,(.t 26)))]),oX 28 (.call 82 [(.t 25),(.t 27)])]) .ret) .skip))) (.seq (qR 4 [oM 29 0,oF 30 2 3,oL 31 1 30,oX 32 (.call 95 [(.t 29),(.t 31)]),oM 6 32]) (.seq (qR 5 [oM 33 0,oN 34 33,oF 35 0 34,oF 36 18 35,oL 37 1 36,oM 38 6,oI 39 7 37 38,oM 7 39]) (.seq (.draw 6 (qN (oF 40 2 3) (qN (oL 41 1 40) (qN (oF 42 3 3) (qN (oL 43 1 42) (qN (oM 44 7) (qN (oN 45 44) (qN (oF 46 3 45) (qN (oL 47 1 46) (qN (oX 48 (.build [qZ,qZ,qZ,qZ,qZ,qZ,qZ] [(1,(1,(.t 41))),(2,(1,(.t 43))),(3,(1,(.t 47)))])) (qN (oX 8 (.alloc [qZ,qZ,qZ,qZ,qZ,qZ,qZ])) (.one false (oS 7 8 48) .done)))))))))))) (.block 0 (.seq (qR 8 [oF 53 0 3,oL 54 1 53,oX 55 (.bin .eql (.t 54) (kI 3)),oM 52 55]) (.cond 52 (qR 9 [oM 56 0,oM 57 6,oX 58 (.build [qZ,qZ,qZ,qZ,qZ,qZ,qZ] [(0,(1,(kI 7)))]),oX 59 (.call 96 [(.t 56),(.t 57),(.t 58)])]) (.seq (qR 10 [oF 61 0 3,oL 62 1 61,oX 63 (.bin .eql (.t 62) (kI 2)),oM 60 63]) (.cond 60 (.seq (.seq (qR 11 [oM 64 7,oN 65 64,oF 66 4 65,oL 67 1 66]) (.cond 67 (qR 12 [oM 68 0,oM 69 7,oM 70 0,oN 71 70,oF 72 0 71,oF 73 0 72,oF 74 6 73,oL 75 1 74,oX 76 (.call 85 [(.t 68),(.t 69),(.t 75)])]) .skip)) (.seq (qR 13 [oF 77 0 8,oY (.store 1 (.t 77) (kI 3))]) (qR 14 [oM 78 0,oA 79 7 8,oX 80 (.call 82 [(.t 78),(.t 79)])]))) (.seq (qR 15 [oM 82 7,oN 83 82,oF 84 4 83,oL 85 1 84,oM 81 85]) (.cond 81 (qR 16 [oM 86 0,oX 87 (.build [qZ,qZ,qZ,qZ,qZ,qZ,qZ] [(0,(1,(kI 10))),(5,(1,(kI 7)))]),oX 88 (.call 82 [(.t 86),(.t 87)])]) (.seq (qR 17 [oF 90 4 3,oL 91 1 90,oM 89 91]) (.cond 89 (.seq (qR 18 [oM 92 7,oN 93 92,oF 94 4 93,oY (.store 1 (.t 94) (.k qT))]) (.seq (qR 19 [oM 95 0,oM 96 7,oN 97 96,oF 98 3 97,oL 99 1 98,oX 100 (.call 99 [(.t 95),(.t 99),(.k qF)])]) (.seq (qR 20 [oM 101 0,oM 102 7,oM 103 0,oN 104 103,oF 105 0 104,oF 106 0 105,oF 107 6 106,oL 108 1 107,oX 109 (.call 85 [(.t 101),(.t 102),(.t 108)])]) (.seq (qR 21 [oF 110 0 8,oY (.store 1 (.t 110) (kI 4))]) (qR 22 [oM 111 0,oA 112 7 8,oX 113 (.call 82 [(.t 111),(.t 112)])]))))) (qR 7 [oM 49 0,oM 50 6,oX 51 (.call 97 [(.t 49),(.t 50),(kI 3)])]))))))))))))))),[],114⟩:=by kernel_rfl
theorem gflow_mf (g:Gt) (n:Nat) (e:Evt) (h:Mid g n (-1)) (ho:g.out.length < 999998):MF Tryz.prog 56 [.agg e.D] g (g.flow e):=by
 have hf40:=fl_le h.fs
 have ht40:=h.tok.2.1
 have hget:=tget_pf g.tb e.slot e.gen h.tok
 unfold Gt.flow
 by_cases c0:(getM g.tb e.slot e.gen).2 ≠ 0
 ·rw[if_pos c0]
  generalize getM g.tb e.slot e.gen=r at hget c0 ⊢
  obtain ⟨rs,rc⟩:=r
  simp only at hget c0 ⊢
  have hput:=gput_mo g ⟨10,0,0,0,0,rc,0⟩ (by omega)
  simp only[MO,Gt.put,Gt.H,Gt.cells,Outp.D,List.map_append,List.map_cons,List.map_nil,List.cons_append,List.nil_append] at hput
  simp only[TSlot.D] at hget
  refine MF.of ?_
  unfold Gt.H Gt.cells
  refine hO (h3:=by simp[Evt.D]) gflow_code [0,1,3,5,6,7,8,24,52,60,67,81,89] [] fun B hBN hB0 => ?_
  repeat' (first
   | simp[Evt.D,c0]
   | refine ⟨wcS ?_,?_⟩
   | (refine WCall.pf (hget) ?_ ?_ ?_ ?_;iterate 3 (solve|simp[Evt.D,c0]))
   | with_reducible refine aI ?_ ?_ ?_)
  all_goals
   refine wH [0,1,2,3] (hput) ?_
   rintro d H' nx' ⟨rfl,rfl,rfl⟩
   simp[Gt.put,Outp.D,Gt.cells]
   exact ⟨6,by simp,1,by simp⟩
 have c0:=Decidable.not_not.1 c0
 rw[if_neg (fun hh => hh c0)]
 obtain ⟨z0,z1,z2,z3,z4⟩:=getM_in g.tb e.slot e.gen c0
 obtain ⟨f0,hf0,hfs⟩:=h.fs.al e.slot.toNat (by omega) z3
 have hfs:f0.slot=e.slot:=by omega
 have hfm:=find_mem h.fs.so hf0
 rw[hfs] at hfm
 obtain ⟨hil,hfi,hfp,_⟩:=hfm
 have hff:=gfind_pf g e.slot (by omega)
 obtain ⟨i,hi⟩:∃ i:Nat,findF g.fl e.slot=i:=⟨(findF g.fl e.slot).toNat,by omega⟩
 have hhi:=hi
 dsimp only
 rw[hi,Int.toNat_natCast] at hil
 have hfi2:g.fl[i]=f0:=by
  have:(findF g.fl e.slot).toNat=i:=by omega
  subst this;exact hfi
 rw[hi] at hff
 simp only[hi,Int.toNat_natCast]
 clear hfi hfp hi
 have hgd:=getD_at (default:Flw) hil
 rw[hfi2] at hgd
 have hfl:=h.flow hf0
 have hfe:=h.fe _ hf0
 have hgf:=get_flow h hf0
 have hgen:f0.gen=e.gen:=by
  have:=hfl.2.2.1
  rw[hfs] at this
  rw[this] at z4;exact z4
 simp only[hgd]
 generalize getM g.tb e.slot e.gen=r at hget c0
 obtain ⟨rs,rc⟩:=r
 simp only at hget c0
 subst c0
 simp only[TSlot.D] at hget
 simp only[Gt.P,Gt.W,Gt.cells,List.cons_append,List.nil_append] at hff
 have hf:=hfi2.symm
 by_cases k3:e.kind=3
 ·rw[if_pos k3]
  have hdrop:=gdrop_mf g n i ⟨7,0,0,0,0,0,0⟩ h hil (by omega)
  refine MF.of ?_
  generalize g.drop i ⟨7,0,0,0,0,0,0⟩=G at hdrop ⊢
  simp only[MF,Gt.H5,Gt.H,Gt.cells,Outp.D,List.cons_append,List.nil_append] at hdrop
  unfold Gt.H Gt.cells
  refine hO (h3:=by simp[Evt.D]) gflow_code [0,1,3,5,6,7,8,24,52,60,67,81,89] [] fun B hBN hB0 => ?_
  repeat' (first
   | simp[Evt.D,hil,← hf,Flw.D,k3]
   | refine ⟨wcS ?_,?_⟩
   | (refine WCall.pf (hget) ?_ ?_ ?_ ?_;iterate 3 (solve|simp[Evt.D,hil,← hf,Flw.D,k3]))
   | (refine WCall.pf (hff) ?_ ?_ ?_ ?_;iterate 3 (solve|simp[Evt.D,hil,← hf,Flw.D,k3]))
   | with_reducible refine aI ?_ ?_ ?_)
  all_goals
   refine wH [0,1,2,3] (hdrop) ?_
   rintro d H' nx' ⟨rfl,rfl,rfl⟩
   simp
   exact ⟨8,by simp,7,by simp⟩
 rw[if_neg k3]
 by_cases k2:e.kind=2
 ·rw[if_pos k2]
  cases hs:f0.serving with
  | true =>
   simp only[if_true]
   have hd:=gdue_mk g i g.c.c6 hil ⟨h.wh,h.wn,h.n0,by have:=h.n1;have:=h.nn;omega,by rw[hfi2];omega,by rw[hfi2];omega,h.c.w6.1,h.c.w6.2⟩
   rw[due_at g i hil,hfi2] at hd
   rw[due_at g i hil,hfi2]
   have hput:=gput_mo { g with fl:=g.fl.set i { f0 with due:=g.now + g.c.c6 },tm:=armT g.tm f0.slot (g.now + g.c.c6) } ⟨3,e.slot,e.gen,f0.backend,0,0,0⟩ (by show g.out.length ≤ _;omega)
   generalize armT g.tm f0.slot (g.now + g.c.c6)=TM at *
   simp only[MK,MO,Gt.put,Gt.H,Gt.cells,Outp.D,List.map_append,List.map_cons,List.map_nil,List.map_set,List.cons_append,List.nil_append,Flw.D] at hd hput
   refine MF.of ?_
   unfold Gt.H Gt.cells
   refine hO (h3:=by simp[Evt.D]) gflow_code [0,1,3,5,6,7,8,24,52,60,67,81,89] [] fun B hBN hB0 => ?_
   repeat' (first
    | simp[Evt.D,hil,← hf,Flw.D,k2,hs]
    | refine ⟨wcS ?_,?_⟩
    | (refine WCall.pf (hget) ?_ ?_ ?_ ?_;iterate 3 (solve|simp[Evt.D,hil,← hf,Flw.D,k2,hs]))
    | (refine WCall.pf (hff) ?_ ?_ ?_ ?_;iterate 3 (solve|simp[Evt.D,hil,← hf,Flw.D,k2,hs]))
    | with_reducible refine aI ?_ ?_ ?_)
   all_goals
    refine WCall.hf [0,1,2,3] (hd) (by simp) rfl rfl (by decide) (by simp) (by simp[hs]) (by simp[hs]) (by simp[hs]) (by simp[hs]) ?_
    rintro d H' nx' ⟨rfl,rfl,rfl⟩
    simp
    refine WCall.hf [0,1,2,3] (hput) (by simp) rfl rfl (by decide) (by simp) (by simp[hs]) (by simp[hs]) (by simp[hs]) (by simp[hs]) ?_
    rintro d H' nx' ⟨rfl,rfl,rfl⟩
    simp[Gt.put,Outp.D,Flw.D,Gt.cells,hs]
    exact ⟨7,by simp,1,by simp⟩
  | false =>
   simp only[Bool.false_eq_true,if_false]
   have hput:=gput_mo g ⟨3,e.slot,e.gen,f0.backend,0,0,0⟩ (by omega)
   simp only[MO,Gt.put,Gt.H,Gt.cells,Outp.D,List.map_append,List.map_cons,List.map_nil,List.cons_append,List.nil_append] at hput
   refine MF.of ?_
   unfold Gt.H Gt.cells
   refine hO (h3:=by simp[Evt.D]) gflow_code [0,1,3,5,6,7,8,24,52,60,67,81,89] [] fun B hBN hB0 => ?_
   repeat' (first
    | simp[Evt.D,hil,← hf,Flw.D,k2,hs]
    | refine ⟨wcS ?_,?_⟩
    | (refine WCall.pf (hget) ?_ ?_ ?_ ?_;iterate 3 (solve|simp[Evt.D,hil,← hf,Flw.D,k2,hs]))
    | (refine WCall.pf (hff) ?_ ?_ ?_ ?_;iterate 3 (solve|simp[Evt.D,hil,← hf,Flw.D,k2,hs]))
    | with_reducible refine aI ?_ ?_ ?_)
   all_goals
    refine wH [0,1,2,3] (hput) ?_
    rintro d H' nx' ⟨rfl,rfl,rfl⟩
    simp[Gt.put,Outp.D,Gt.cells]
    exact ⟨7,by simp,1,by simp⟩
 rw[if_neg k2]
 cases hs:f0.serving with
 | true =>
  simp only[if_true]
  have hput:=gput_mo g ⟨10,0,0,0,0,7,0⟩ (by omega)
  simp only[MO,Gt.put,Gt.H,Gt.cells,Outp.D,List.map_append,List.map_cons,List.map_nil,List.cons_append,List.nil_append] at hput
  refine MF.of ?_
  unfold Gt.H Gt.cells
  refine hO (h3:=by simp[Evt.D]) gflow_code [0,1,3,5,6,7,8,24,52,60,67,81,89] [] fun B hBN hB0 => ?_
  repeat' (first
   | simp[Evt.D,hil,← hf,Flw.D,k3,k2,hs]
   | refine ⟨wcS ?_,?_⟩
   | (refine WCall.pf (hget) ?_ ?_ ?_ ?_;iterate 3 (solve|simp[Evt.D,hil,← hf,Flw.D,k3,k2,hs]))
   | (refine WCall.pf (hff) ?_ ?_ ?_ ?_;iterate 3 (solve|simp[Evt.D,hil,← hf,Flw.D,k3,k2,hs]))
   | with_reducible refine aI ?_ ?_ ?_)
  all_goals
   refine wH [0,1,2,3] (hput) ?_
   rintro d H' nx' ⟨rfl,rfl,rfl⟩
   simp[Gt.put,Outp.D,Gt.cells]
   exact ⟨7,by simp,1,by simp⟩
 | false =>
  simp only[Bool.false_eq_true,if_false]
  cases hg:e.good with
  | true =>
   simp only[if_true]
   have hser:g.served i={ g with fl:=g.fl.set i { f0 with serving:=true } }:=by unfold Gt.served;rw[hgd]
   rw[hser]
   have hnote:=gnote_mk g n (-1) (g.fl.set i { f0 with serving:=true }) f0.backend false h (by omega) (by omega)
   obtain ⟨HL,hHL⟩:∃ HL,Gt.note { g with fl:=g.fl.set i { f0 with serving:=true } } f0.backend false={ g with fl:=g.fl.set i { f0 with serving:=true },hl:=HL }:=⟨_,rfl⟩
   rw[hHL] at hnote ⊢
   have hd:=gdue_mk { g with fl:=g.fl.set i { f0 with serving:=true },hl:=HL } i g.c.c6 (by simpa using hil) ⟨h.wh,h.wn,h.n0,by have:=h.n1;have:=h.nn;show g.now ≤ _;omega,by simp;omega,by simp;omega,h.c.w6.1,h.c.w6.2⟩
   have e3:=due_set { g with hl:=HL } i hil { f0 with serving:=true } (g.now + g.c.c6)
   simp only at e3 hd
   rw[e3] at hd ⊢
   have hput:=gput_mo { g with fl:=g.fl.set i { f0 with serving:=true,due:=g.now + g.c.c6 },tm:=armT g.tm f0.slot (g.now + g.c.c6),hl:=HL } ⟨4,e.slot,e.gen,f0.backend,0,0,0⟩ (by show g.out.length ≤ _;omega)
   generalize armT g.tm f0.slot (g.now + g.c.c6)=TM at *
   simp only[MK,MO,Gt.put,Gt.H,Gt.cells,Outp.D,List.map_append,List.map_cons,List.map_nil,List.map_set,List.cons_append,List.nil_append,Flw.D] at hd hput hnote
   refine MF.of ?_
   unfold Gt.H Gt.cells
   refine hO (h3:=by simp[Evt.D]) gflow_code [0,1,3,5,6,7,8,24,52,60,67,81,89] [] fun B hBN hB0 => ?_
   repeat' (first
    | simp[Evt.D,hil,← hf,Flw.D,k3,k2,hs,hg]
    | refine ⟨wcS ?_,?_⟩
    | (refine WCall.pf (hget) ?_ ?_ ?_ ?_;iterate 3 (solve|simp[Evt.D,hil,← hf,Flw.D,k3,k2,hs,hg]))
    | (refine WCall.pf (hff) ?_ ?_ ?_ ?_;iterate 3 (solve|simp[Evt.D,hil,← hf,Flw.D,k3,k2,hs,hg]))
    | with_reducible refine aI ?_ ?_ ?_)
   all_goals
    refine wH [0,1,2,3] (hnote) ?_
    rintro d H' nx' ⟨rfl,rfl,rfl⟩
    simp[hil]
    refine wH [0,1,2,3] (hd) ?_
    rintro d H' nx' ⟨rfl,rfl,rfl⟩
    simp
    refine wH [0,1,2,3] (hput) ?_
    rintro d H' nx' ⟨rfl,rfl,rfl⟩
    simp[Gt.put,Outp.D,Flw.D,Gt.cells]
    exact ⟨7,by simp,1,by simp⟩
  | false =>
   simp only[Bool.false_eq_true,if_false]
   have hfa:=gfailed_mf g n i 3 h hil (by rw[hfi2];exact hs) ho
   refine MF.of ?_
   generalize g.failed i 3=G at hfa ⊢
   simp only[MF,Gt.H5,Gt.H,Gt.cells,List.cons_append,List.nil_append] at hfa
   unfold Gt.H Gt.cells
   refine hO (h3:=by simp[Evt.D]) gflow_code [0,1,3,5,6,7,8,24,52,60,67,81,89] [] fun B hBN hB0 => ?_
   repeat' (first
    | simp[Evt.D,hil,← hf,Flw.D,k3,k2,hs,hg]
    | refine ⟨wcS ?_,?_⟩
    | (refine WCall.pf (hget) ?_ ?_ ?_ ?_;iterate 3 (solve|simp[Evt.D,hil,← hf,Flw.D,k3,k2,hs,hg]))
    | (refine WCall.pf (hff) ?_ ?_ ?_ ?_;iterate 3 (solve|simp[Evt.D,hil,← hf,Flw.D,k3,k2,hs,hg]))
    | with_reducible refine aI ?_ ?_ ?_)
   all_goals
    refine wH [0,1,2,3] (hfa) ?_
    rintro d H' nx' ⟨rfl,rfl,rfl⟩
    simp
    exact ⟨8,by simp,7,by simp⟩
theorem Mid.retired {g:Gt} {n:Nat} (h:Mid g n (-1)) {e:Evt} (he:EvtOk e) {a:AskR} (ha:a=askM g.L g.R (reqOf e) g.now g.c.c5) (hk6:e.kind=6) (hfr:a.fresh=true) (h0:a.answer=0) (hst:stateM g.L e.backend ≠ 1) :
  Mid { g with L:=a.L,R:=a.R,ws:=g.ws.set e.backend.toNat 0,out:=g.out ++ [⟨8,0,0,0,e.req,a.answer,0⟩] } n e.backend ∧ stateM g.L e.backend=2:=by
 have hn1:=h.n1
 have hnn:=h.nn
 have h5:=h.c.w5
 have hbk:=ask_ok h.bk (reqOf e) (reqOf_ok he) g.now g.c.c5 h.n0 (by omega) (by omega) h5.2
 have hc:=ask_cases h.bk (reqOf e) g.now g.c.c5
 rw[← ha] at hbk hc
 have hk:(reqOf e).kind=2:=by simp[reqOf,hk6]
 rcases hc with ⟨_,h2⟩ | ⟨_,_,h3,_⟩ | ⟨h1,h2,h3,h4,h6⟩
 ·rcases h2 with h2 | h2
  ·rw[hfr] at h2;cases h2
  ·exact absurd h0 h2
 ·omega
 obtain ⟨x0,hx0⟩:∃ x0:Lif,x0={ lifeM g.L (reqOf e).backend with state:=if stateM g.L (reqOf e).backend=1 then 4 else 3,til:=g.now + g.c.c5,req:=(reqOf e).id }:=⟨_,rfl⟩
 have hlm:=state_mem (L:=g.L) (b:=(reqOf e).backend) (by omega)
 have hxb:x0.backend=(reqOf e).backend:=by rw[hx0];exact hlm.2
 have hxs:x0.state=if stateM g.L (reqOf e).backend=1 then 4 else 3:=by rw[hx0]
 have hxt:x0.til=g.now + g.c.c5:=by rw[hx0]
 have hxe:x0.since=(lifeM g.L (reqOf e).backend).since:=by rw[hx0]
 rw[← hx0] at h6
 rw[← hxb] at h6
 have hu:=life_upd h.bk.sorted hbk.sorted h6
 have hbe:(reqOf e).backend=e.backend:=rfl
 have hsn:=h.since _ hlm.1
 have h2':stateM g.L e.backend=2:=by rw[hbe] at h4;omega
 rw[hbe,if_neg hst] at hxs
 have hb0:=h.bk.lok _ hlm.1
 have hbb:0 ≤ e.backend ∧ e.backend < 12:=by
  have e9:=hlm.2
  rw[hbe] at e9
  rw[← e9];exact ⟨hb0.b0,hb0.b1⟩
 have hw:g.ws.set e.backend.toNat 0=wsOf a.L:=by
  rw[h.ws]
  refine (wsOf_set e.backend.toNat (fun b' hb' hne => ?_) 0 fun _ => ?_).symm
  ·rw[hu,if_neg (by rw[hxb,hbe];omega)]
  ·rw[hu,if_pos (by rw[hxb,hbe];omega)]
   simp[actW,hxs]
 have:=h.life hbk h6 (by omega) (fun _ => by omega) hw (fun f hf e1 => .inr hxs) (g.out ++ [⟨8,0,0,0,e.req,a.answer,0⟩])
 rw[hxb,hbe] at this
 exact ⟨this,h2'⟩
theorem gask_code:cfun Tryz.prog [] 54=some ⟨(.seq (qR 0 [oB 3 1]) (.seq (qR 1 [oF 10 5 3,oL 11 1 10,oF 12 6 3,oL 13 1 12,oF 14 7 3,oL 15 1 14,oX 16 (.build [qZ,qZ,qZ,qZ,qZ] [(0,(1,(.t 11))),(1,(1,(kI 1))),(2,(1,(.t 13))),(3,(1,(.t 15)))]),oX 4 (.alloc [qZ,qZ,qZ,qZ,qZ]),oS 5 4 16]) (.seq (.seq (qR 2 [oF 17 0 3,oL 18 1 17,oX 19 (.bin .eql (.t 18) (kI 6))]) (.cond 19 (qR 3 [oF 20 1 4,oY (.store 1 (.t 20) (kI 2))]) .skip)) (.seq (qR 4 [oM 21 0,oF 22 6 3,oL 23 1 22,oX 24 (.call 87 [(.t 21),(.t 23)]),oM 5 24]) (.seq (.draw 5 (qN (oM 26 0) (qN (oN 27 26) (qN (oF 28 0 27) (qN (oF 29 19 28) (qN (oA 30 2 29) (qN (oA 31 5 4) (qN (oM 32 0) (qN (oN 33 32) (qN (oF 34 0 33) (qN (oF 35 16 34) (qN (oL 36 1 35) (qN (oM 37 0) (qN (oN 38 37) (qN (oF 39 0 38) (qN (oF 40 0 39) (qN (oF 41 5 40) (qN (oL 42 1 41) (.two (qN (oX 43 (.call 88 [(.t 30),(.t 31),(.t 36),(.t 42)])) (qN (oM 25 43) (qN (oE 44 25 0) (qN (oE 45 25 1) (qN (oE 46 25 2) (qN (oE 47 25 3) (qN (oX 6 (.alloc [.nil0,.nil0])) (.one false (oS 2 6 44) (qN (oM 7 45) (qN (oM 8 46) (qN (oM 9 47) .done))))))))))) (.two (qN (oX 6 (.alloc [.nil0,.nil0])) (qN (oX 43 (.call 88 [(.t 30),(.t 31),(.t 36),(.t 42)])) (qN (oM 25 43) (qN (oE 44 25 0) (qN (oE 45 25 1) (qN (oE 46 25 2) (qN (oE 47 25 3) (.one false (oS 2 6 44) (qN (oM 7 45) (qN (oM 8 46) (qN (oM 9 47) .done))))))))))) .top)))))))))))))))))))) (.seq (qR 6 [oM 48 0,oA 49 2 6,oN 50 48,oF 51 0 50,oF 52 19 51,oS 2 52 49]) (.seq (qR 7 [oM 53 0,oF 54 5 3,oL 55 1 54,oM 56 7,oX 57 (.build [qZ,qZ,qZ,qZ,qZ,qZ,qZ] [(0,(1,(kI 8))),(4,(1,(.t 55))),(5,(1,(.t 56)))]),oX 58 (.call 82 [(.t 53),(.t 57)])]) (.seq (.seq (qR 8 [oM 59 8,oX 60 (.not (.t 59)),oM 61 60,oG 62 (.mov (.t 7)) 61 false,oG 63 (.bin .neq (.t 62) (kI 0)) 61 false,oX 64 (.pick (.t 61) (.k qT) (.t 63)),oM 65 64,oG 66 (.fad 0 (.t 3)) 65 false,oG 67 (.load false 1 (.t 66)) 65 false,oG 68 (.bin .neq (.t 67) (kI 6)) 65 false,oX 69 (.pick (.t 65) (.k qT) (.t 68))]) (.cond 69 .ret .skip)) (.seq (.seq (qR 9 [oM 70 5,oX 71 (.bin .eql (.t 70) (kI 1))]) (.cond 71 (.seq (qR 10 [oM 72 0,oF 73 6 3,oL 74 1 73,oF 75 5 3,oL 76 1 75,oX 77 (.build [qZ,qZ,qZ,qZ,qZ,qZ,qZ] [(0,(1,(kI 9))),(3,(1,(.t 74))),(4,(1,(.t 76)))]),oX 78 (.call 82 [(.t 72),(.t 77)])]) .ret) .skip)) (.seq (.draw 11 (qN (oM 80 0) (qN (oM 81 0) (qN (oN 82 81) (qN (oF 83 0 82) (qN (oF 84 21 83) (qN (oA 85 1 84) (qN (oF 86 6 3) (qN (oL 87 1 86) (qN (oX 88 (.call 89 [(.t 85),(.t 87)])) (qN (oM 79 88) (qN (oE 89 79 0) (qN (oE 90 79 1) (qN (oN 91 80) (qN (oF 92 0 91) (qN (oF 93 21 92) (.one false (oS 1 93 89) .done))))))))))))))))) (qR 12 [oM 94 0,oF 95 6 3,oL 96 1 95,oX 97 (.call 90 [(.t 94),(.t 96)])]))))))))))),[],98⟩:=by kernel_rfl
theorem gask_mo (g:Gt) (n:Nat) (e:Evt) (h:Mid g n (-1)) (he:EvtOk e) (ho:g.out.length < 999998):MO Tryz.prog 54 [.agg e.D] g (g.ask e):=by
 have hn1:=h.n1
 have hnn:=h.nn
 have h5:=h.c.w5
 have hst:=gstate_pf g e.backend h.bk
 have hask:=lask_pf g.L g.R (reqOf e) g.now g.c.c5 h.bk (reqOf_ok he) h.n0 (by omega) (by omega) h5.2
 have hret:=fun a ha h6 hf h0 hs => h.retired he (a:=a) ha h6 hf h0 hs
 have hws:WOk g.ws:=by rw[h.ws];exact wsOf_ok h.bk.lok
 have hwg:∀ b:Nat,b < 12 → (b:Int)=e.backend → stateM g.L e.backend=2 → g.ws.getD b 0=(lifeM g.L e.backend).weight.toNat ∧ 0 < (lifeM g.L e.backend).weight.toNat:=fun b hb hbe hs => by
  rw[h.ws,wsOf_get _ _ hb,hbe]
  have:=(h.bk.lok _ (state_mem (L:=g.L) (b:=e.backend) (by omega)).1).w0
  unfold stateM at hs
  unfold actW
  rw[if_pos hs]
  omega
 have heb:=he.2.2.2.2.2.2
 unfold Gt.ask
 obtain ⟨a,ha⟩:∃ a,a=askM g.L g.R (reqOf e) g.now g.c.c5:=⟨_,rfl⟩
 have hret:=hret a ha
 rw[← ha] at hask
 dsimp only
 rw[← ha]
 clear ha
 unfold bookD at hask
 simp only[Gt.P,Gt.W,Gt.cells,List.cons_append,List.nil_append] at hst
 have hput:=gput_mo { g with L:=a.L,R:=a.R } ⟨8,0,0,0,e.req,a.answer,0⟩ (by show g.out.length ≤ _;omega)
 simp only[MO,Gt.put,Gt.H,Gt.cells,Outp.D,List.map_append,List.map_cons,List.map_nil,List.cons_append,List.nil_append] at hput
 have hrD:(reqOf e).D=[I e.req,I (if e.kind=6 then 2 else 1),I e.backend,I e.weight,I 0]:=rfl
 rw[hrD] at hask
 by_cases k6:e.kind=6
 ·rw[if_pos k6] at hask
  cases hfr:a.fresh with
  | false =>
   rw[if_pos (.inl rfl)]
   rw[hfr] at hask
   refine MO.of ?_
   unfold Gt.H Gt.cells
   refine hO (h3:=by simp[Evt.D]) gask_code [0,1,3,4,5,6,7,8,19,69,71] [] fun B hBN hB0 => ?_
   repeat' (first
    | simp[Evt.D,k6]
    | refine ⟨wcS ?_,?_⟩
    | (refine WCall.pf (hst) ?_ ?_ ?_ ?_;iterate 3 (solve|simp[Evt.D,k6]))
    | (refine WCall.pf (hask) ?_ ?_ ?_ ?_;iterate 3 (solve|simp[Evt.D,k6]))
    | with_reducible refine aI ?_ ?_ ?_)
   all_goals
    refine wH [0,1,2,3] (hput) ?_
    rintro d H' nx' ⟨rfl,rfl,rfl⟩
    simp[Outp.D]
    exact ⟨7,by simp⟩
  | true =>
   rw[hfr] at hask
   by_cases a0:a.answer=0
   ·by_cases s1:stateM g.L e.backend=1
    ·rw[if_neg (by rintro (h | h | h);cases h;exact h a0;exact h k6),if_pos s1]
     rw[s1] at hst
     rw[a0] at hask hput ⊢
     have hp2:=gput_mo { g with L:=a.L,R:=a.R,out:=g.out ++ [⟨8,0,0,0,e.req,0,0⟩] } (goneO e.backend e.req) (by simp;omega)
     simp only[MO,Gt.put,Gt.H,Gt.cells,goneO,Outp.D,List.map_append,List.map_cons,List.map_nil,List.cons_append,List.nil_append] at hp2
     refine MO.of ?_
     unfold Gt.H Gt.cells
     refine hO (h3:=by simp[Evt.D]) gask_code [0,1,3,4,5,6,7,8,19,69,71] [] fun B hBN hB0 => ?_
     repeat' (first
      | simp[Evt.D,k6]
      | refine ⟨wcS ?_,?_⟩
      | (refine WCall.pf (hst) ?_ ?_ ?_ ?_;iterate 3 (solve|simp[Evt.D,k6]))
      | (refine WCall.pf (hask) ?_ ?_ ?_ ?_;iterate 3 (solve|simp[Evt.D,k6]))
      | with_reducible refine aI ?_ ?_ ?_)
     all_goals
      refine wH [0,1,2,3] (hput) ?_
      rintro d H' nx' ⟨rfl,rfl,rfl⟩
      simp[Evt.D,k6]
      refine wH [0,1,2,7] (hp2) ?_
      rintro d H' nx' ⟨rfl,rfl,rfl⟩
      simp[Outp.D,Gt.put,goneO]
      exact ⟨8,by simp⟩
    ·rw[if_neg (by rintro (h | h | h);cases h;exact h a0;exact h k6),if_neg s1]
     obtain ⟨hmid,s2⟩:=hret k6 hfr a0 s1
     rw[a0] at hask hput hmid ⊢
     have hsp:=gspar_mo _ n e.backend hmid (by simp;omega)
     obtain ⟨b,hb⟩:∃ b:Nat,e.backend=b:=⟨e.backend.toNat,by omega⟩
     have hb12:b < 12:=by omega
     obtain ⟨w1,w2⟩:=hwg b hb12 hb.symm s2
     have hrm:=rrem_pf g.ws hws b _ hb12 w1 w2
     rw[← hb] at hrm
     have hbt:e.backend.toNat=b:=by omega
     rw[hbt] at hsp ⊢
     refine MO.of ?_
     generalize Gt.spared _ e.backend=G at hsp ⊢
     simp only[MO,Gt.H,Gt.cells,Outp.D,List.map_append,List.map_cons,List.map_nil,List.cons_append,List.nil_append] at hsp
     rw[s2] at hst
     unfold Gt.H Gt.cells
     refine hO (h3:=by simp[Evt.D]) gask_code [0,1,3,4,5,6,7,8,19,69,71] [] fun B hBN hB0 => ?_
     repeat' (first
      | simp[Evt.D,k6]
      | refine ⟨wcS ?_,?_⟩
      | (refine WCall.pf (hst) ?_ ?_ ?_ ?_;iterate 3 (solve|simp[Evt.D,k6]))
      | (refine WCall.pf (hask) ?_ ?_ ?_ ?_;iterate 3 (solve|simp[Evt.D,k6]))
      | with_reducible refine aI ?_ ?_ ?_)
     all_goals
      refine wH [0,1,2,3] (hput) ?_
      rintro d H' nx' ⟨rfl,rfl,rfl⟩
      repeat' (first
       | simp[Evt.D,k6]
       | refine ⟨wcS ?_,?_⟩
       | (refine WCall.pf (hrm) ?_ ?_ ?_ ?_;iterate 3 (solve|simp[Evt.D,k6]))
       | with_reducible refine aI ?_ ?_ ?_)
      all_goals
       refine wH [0,1,2,7] (hsp) ?_
       rintro d H' nx' ⟨rfl,rfl,rfl⟩
       simp
       exact ⟨8,by simp⟩
   ·rw[if_pos (.inr (.inl a0))]
    refine MO.of ?_
    unfold Gt.H Gt.cells
    refine hO (h3:=by simp[Evt.D]) gask_code [0,1,3,4,5,6,7,8,19,69,71] [] fun B hBN hB0 => ?_
    repeat' (first
     | simp[Evt.D,k6]
     | refine ⟨wcS ?_,?_⟩
     | (refine WCall.pf (hst) ?_ ?_ ?_ ?_;iterate 3 (solve|simp[Evt.D,k6]))
     | (refine WCall.pf (hask) ?_ ?_ ?_ ?_;iterate 3 (solve|simp[Evt.D,k6]))
     | with_reducible refine aI ?_ ?_ ?_)
    all_goals
     refine wH [0,1,2,3] (hput) ?_
     rintro d H' nx' ⟨rfl,rfl,rfl⟩
     simp[Outp.D,a0]
     exact ⟨7,by simp⟩
 ·rw[if_pos (.inr (.inr k6))]
  rw[if_neg k6] at hask
  cases hfr:a.fresh with
  | false =>
   rw[hfr] at hask
   refine MO.of ?_
   unfold Gt.H Gt.cells
   refine hO (h3:=by simp[Evt.D]) gask_code [0,1,3,4,5,6,7,8,19,69,71] [] fun B hBN hB0 => ?_
   repeat' (first
    | simp[Evt.D,k6]
    | refine ⟨wcS ?_,?_⟩
    | (refine WCall.pf (hst) ?_ ?_ ?_ ?_;iterate 3 (solve|simp[Evt.D,k6]))
    | (refine WCall.pf (hask) ?_ ?_ ?_ ?_;iterate 3 (solve|simp[Evt.D,k6]))
    | with_reducible refine aI ?_ ?_ ?_)
   all_goals
    refine wH [0,1,2,3] (hput) ?_
    rintro d H' nx' ⟨rfl,rfl,rfl⟩
    simp[Outp.D,Evt.D,k6]
    exact ⟨7,by simp⟩
  | true =>
   rw[hfr] at hask
   by_cases a0:a.answer=0
   ·rw[a0] at hask hput ⊢
    refine MO.of ?_
    unfold Gt.H Gt.cells
    refine hO (h3:=by simp[Evt.D]) gask_code [0,1,3,4,5,6,7,8,19,69,71] [] fun B hBN hB0 => ?_
    repeat' (first
     | simp[Evt.D,k6]
     | refine ⟨wcS ?_,?_⟩
     | (refine WCall.pf (hst) ?_ ?_ ?_ ?_;iterate 3 (solve|simp[Evt.D,k6]))
     | (refine WCall.pf (hask) ?_ ?_ ?_ ?_;iterate 3 (solve|simp[Evt.D,k6]))
     | with_reducible refine aI ?_ ?_ ?_)
    all_goals
     refine wH [0,1,2,3] (hput) ?_
     rintro d H' nx' ⟨rfl,rfl,rfl⟩
     simp[Outp.D,Evt.D,k6]
     exact ⟨7,by simp⟩
   ·refine MO.of ?_
    unfold Gt.H Gt.cells
    refine hO (h3:=by simp[Evt.D]) gask_code [0,1,3,4,5,6,7,8,19,69,71] [] fun B hBN hB0 => ?_
    repeat' (first
     | simp[Evt.D,k6]
     | refine ⟨wcS ?_,?_⟩
     | (refine WCall.pf (hst) ?_ ?_ ?_ ?_;iterate 3 (solve|simp[Evt.D,k6]))
     | (refine WCall.pf (hask) ?_ ?_ ?_ ?_;iterate 3 (solve|simp[Evt.D,k6]))
     | with_reducible refine aI ?_ ?_ ?_)
    all_goals
     refine wH [0,1,2,3] (hput) ?_
     rintro d H' nx' ⟨rfl,rfl,rfl⟩
     simp[Outp.D,Evt.D,k6,a0]
     exact ⟨7,by simp⟩
theorem tiidx_code:cfun Tryz.prog [] 152=some ⟨(.seq (qR 0 [oB 3 1,oK 4 0]) (.seq (.seq (qR 1 [oM 6 0,oH 7 6,oK 8 0]) (.block 0 (.loop (.seq (qR 2 [oX 9 (.bin .lss (.t 8) (.t 7))]) (.seq (.cond 9 .skip (.exit 0)) (.seq (.block 1 (.seq (qR 3 [oM 10 8,oM 5 10]) (.seq (.draw 4 (qN (oA 11 2 3) (qN (oM 12 0) (qN (oM 13 5) (qN (oI 14 2 12 13) (qN (oA 15 2 14) (qN (oX 16 (.eqa false [.i,.i] (.t 11) (.t 15))) .done))))))) (.cond 16 (.seq (qR 5 [oM 17 5,oM 4 17]) .ret) .skip)))) (qR 6 [oX 18 (.bin .add (.t 8) (kI 1)),oM 8 18]))))))) (.seq (qR 7 [oK 4 (-1)]) .ret))),[(.t 4)],19⟩:=by kernel_rfl
theorem tiidx_pf (l:List (Int × Int)) (a b:Int) (hl:l.length ≤ 1000000):PF Tryz.prog 152 [.rows 2 (l.map tmE),.agg [I a,I b]] (I (idxZ (fun z => decide ((a,b)=z)) l)):=by
 refine pO tiidx_code [0,1,3,4,5,7,8,9,16] [] fun B hBN hB0 => ?_
 simp
 refine W.loopS (fun i:Nat => ⟨[(8,I i),(7,I l.length),(4,I 0),(3,.ptr 0 0),(0,D.rows 2 (l.map tmE))],[(0,.cells [I a,I b])],1⟩)
  (fun n i => n=l.length - i ∧ i ≤ l.length ∧ ∀ j (hj:j < l.length),j < i → ¬ (a,b)=l[j]) ?_ ?_
 ·exact ⟨_,0,(gr0 [0] hB0 (by simp) (by simp) (.inl (by simp))),rfl,by omega,fun j _ h => by omega⟩
 rintro n i ⟨hn,hi,hb⟩
 refine acode_sound [0,1,3,4,5,7,8,9,16] [] _ _ _ ?_
 by_cases hlt:i < l.length
 ·have ii:InR ((i:Int) + 1):=inW (by omega) (by omega)
  by_cases hq:(a,b)=l[i]
  ·have hz:=idxZ_at (fun z => decide ((a,b)=z)) l i hlt (fun j hj => by simpa using hb j (by omega) hj) (by simpa using hq)
   simp[hlt,← hq,hz,tmE]
  ·have hne:¬ (a=l[i].1 ∧ b=l[i].2):=fun h => hq (Prod.ext h.1 h.2)
   by_cases h1:a=l[i].1
   ·have h2:¬ b=l[i].2:=fun h2 => hne ⟨h1,h2⟩
    simp[hlt,← h1,h2,ii,tmE]
    exact ⟨_,i + 1,(gr0 [0] hB0 (by simp) (by simp) (.inl (by simp))),by omega,rfl,by omega,fun j hj h => by
     by_cases hji:j=i
     ·subst hji;exact hq
     ·exact hb j hj (by omega)⟩
   ·simp[hlt,h1,ii,tmE]
    exact ⟨_,i + 1,(gr0 [0] hB0 (by simp) (by simp) (.inl (by simp))),by omega,rfl,by omega,fun j hj h => by
     by_cases hji:j=i
     ·subst hji;exact hq
     ·exact hb j hj (by omega)⟩
 ·have hz:=idxZ_none (fun z => decide ((a,b)=z)) l fun x hx => by
   obtain ⟨j,hj⟩:=zF hx
   obtain ⟨hj2,rfl⟩:=zB.1 hj
   simpa using hb j hj2 (by omega)
  obtain rfl:i=l.length:=by omega
  simp[hz]
theorem ticon_code:cfun Tryz.prog [] 112=some ⟨(.seq (qR 0 [oB 3 1,oX 4 (.mov (.k qF))]) (.seq (qR 1 [oM 5 0,oA 6 2 3,oX 7 (.call 152 [(.t 5),(.t 6)]),oX 8 (.bin .geq (.t 7) (kI 0)),oM 4 8]) .ret)),[(.t 4)],9⟩:=by kernel_rfl
theorem ticon_pf (l:List (Int × Int)) (a b:Int) (hl:l.length ≤ 1000000):PF Tryz.prog 112 [.rows 2 (l.map tmE),.agg [I a,I b]] (.bool (decide ((a,b) ∈ l))):=by
 have h1:=tiidx_pf l a b hl
 have h2:0 ≤ idxZ (fun z => decide ((a,b)=z)) l ↔ (a,b) ∈ l:=by
  constructor
  ·intro h
   obtain ⟨h1,h2,_⟩:=idxZ_get _ l h
   have h3:(a,b)=l[(idxZ (fun z => decide ((a,b)=z)) l).toNat]:=by simpa using h2
   exact h3 ▸ List.getElem_mem h1
  ·intro h
   exact idxZ_some _ l ⟨(a,b),h,by simp⟩
 refine pO ticon_code [0,1,3,4] [] fun B hBN hB0 => ?_
 repeat' (first
  | simp[h2]
  | (refine WCall.pf (h1) ?_ ?_ ?_ ?_;iterate 3 (solve|simp[h2]))
  | (refine ⟨WCall.pf (h1) ?_ ?_ ?_ ?_,?_⟩;(focus (simp;done));(focus (simp[h2];done));(focus (simp[h2];done)))
  | with_reducible refine aI ?_ ?_ ?_)
theorem gfls1_code:cfun Tryz.prog [] 111=some ⟨(.seq (qR 0 [oX 3 (.mov (.k qF))]) (.seq (qR 1 [oM 4 0,oA 5 2 1,oX 6 (.call 112 [(.t 4),(.t 5)]),oM 3 6]) .ret)),[(.t 3)],7⟩:=by kernel_rfl
theorem gfls1_pf (l:List (Int × Int)) (a b:Int) (hl:l.length ≤ 1000000):PF Tryz.prog 111 [.rows 2 (l.map tmE),.pc [I a,I b]] (.bool (decide ((a,b) ∈ l))):=by
 have h1:=ticon_pf l a b hl
 refine pO gfls1_code [0,1,3] [] fun B hBN hB0 => ?_
 repeat' (first
  | simp
  | refine ⟨wcS ?_,?_⟩
  | (refine WCall.pf (h1) ?_ ?_ ?_ ?_;iterate 3 (solve|simp))
  | with_reducible refine aI ?_ ?_ ?_)
theorem tlixf_code:cfun Tryz.prog [] 151=some ⟨(.seq (qR 0 [oK 4 0]) (.seq (.seq (qR 1 [oM 6 0,oH 7 6,oK 8 0]) (.block 0 (.loop (.seq (qR 2 [oX 9 (.bin .lss (.t 8) (.t 7))]) (.seq (.cond 9 .skip (.exit 0)) (.seq (.block 1 (.seq (qR 3 [oM 10 8,oM 5 10]) (.seq (qR 4 [oM 11 1,oM 12 0,oM 13 5,oI 14 1 12 13,oL 15 1 14,oX 16 (.callv (.t 11) [(.t 15)])]) (.cond 16 (.seq (qR 5 [oM 17 5,oM 4 17]) .ret) .skip)))) (qR 6 [oX 18 (.bin .add (.t 8) (kI 1)),oM 8 18]))))))) (.seq (qR 7 [oK 4 (-1)]) .ret))),[(.t 4)],19⟩:=by kernel_rfl
theorem tlixf_pf (L:List (List (Int × Int))) (F:FuncId) (ds:List D) (q:List (Int × Int) → Bool) (hl:L.length ≤ 1000000) (hF:∀ l ∈ L,PF Tryz.prog F [.rows 2 (l.map tmE),.pc ds] (.bool (q l))) :
  PF Tryz.prog 151 [.rows 1 (lsR L),.fn F [.pc ds]] (I (idxZ q L)):=by
 refine pO tlixf_code [0,1,4,5,7,8,9,16] [] fun B hBN hB0 => ?_
 simp[lsR]
 refine W.loopS (fun i:Nat => ⟨[(8,I i),(7,I L.length),(4,I 0),(1,.fn F [.pc ds]),(0,D.rows 1 (L.map fun l => [.rows 2 (l.map tmE)]))],[],0⟩)
  (fun n i => n=L.length - i ∧ i ≤ L.length ∧ ∀ j (hj:j < L.length),j < i → q L[j]=false) ?_ ?_
 ·exact ⟨_,0,(gr0 [] hB0 (by simp) (by simp) (.inr rfl)),rfl,by omega,fun j _ h => by omega⟩
 rintro n i ⟨hn,hi,hb⟩
 refine acode_sound [0,1,4,5,7,8,9,16] [] _ _ _ ?_
 by_cases hlt:i < L.length
 ·have hFo:=hF _ (List.getElem_mem hlt)
  obtain ⟨o,ho⟩:∃ o,o=L[i]:=⟨_,rfl⟩
  rw[← ho] at hFo
  have ii:InR ((i:Int) + 1):=inW (by omega) (by omega)
  cases hq:q o with
  | true =>
   have hz:=idxZ_at q L i hlt (fun j hj => hb j (by omega) hj) (by rw[← ho];exact hq)
   rw[hq] at hFo
   repeat' (first
    | simp[hlt,← ho,hz]
    | refine ⟨wcS ?_,?_⟩
    | (refine WCall.pfv (hFo) ?_ rfl ?_ ?_ ?_;iterate 3 (solve|simp[hlt,← ho,hz]))
    | with_reducible refine aI ?_ ?_ ?_)
   all_goals done
  | false =>
   rw[hq] at hFo
   repeat' (first
    | simp[hlt,← ho,ii]
    | refine ⟨wcS ?_,?_⟩
    | (refine WCall.pfv (hFo) ?_ rfl ?_ ?_ ?_;iterate 3 (solve|simp[hlt,← ho,ii]))
    | with_reducible refine aI ?_ ?_ ?_)
   exact ⟨_,i + 1,(gr0 [] hB0 (by simp) (by simp) (.inr rfl)),by omega,rfl,by omega,fun j hj h => by
    by_cases hji:j=i
    ·subst hji;rw[← ho];exact hq
    ·exact hb j hj (by omega)⟩
 ·have hz:=idxZ_none q L fun x hx => by
   obtain ⟨j,hj⟩:=zF hx
   obtain ⟨hj2,rfl⟩:=zB.1 hj
   exact hb j hj2 (by omega)
  obtain rfl:i=L.length:=by omega
  simp[hz]
theorem tlcf_code:cfun Tryz.prog [] 110=some ⟨(.seq (qR 0 [oX 4 (.mov (.k qF))]) (.seq (qR 1 [oM 5 0,oM 6 1,oX 7 (.call 151 [(.t 5),(.t 6)]),oX 8 (.bin .geq (.t 7) (kI 0)),oM 4 8]) .ret)),[(.t 4)],9⟩:=by kernel_rfl
theorem tlcf_pf (L:List (List (Int × Int))) (F:FuncId) (ds:List D) (q:List (Int × Int) → Bool) (hl:L.length ≤ 1000000) (hF:∀ l ∈ L,PF Tryz.prog F [.rows 2 (l.map tmE),.pc ds] (.bool (q l))) (hx:∃ l ∈ L,q l=true) :
  PF Tryz.prog 110 [.rows 1 (lsR L),.fn F [.pc ds]] (.bool true):=by
 have h1:=tlixf_pf L F ds q hl hF
 have h2:=idxZ_some q L hx
 refine pO tlcf_code [0,1,4] [] fun B hBN hB0 => ?_
 repeat' (first
  | simp[h2]
  | refine ⟨wcS ?_,?_⟩
  | (refine WCall.pf (h1) ?_ ?_ ?_ ?_;iterate 3 (solve|simp[h2]))
  | with_reducible refine aI ?_ ?_ ?_)
def prevF (fl:List Flw) (i:Nat):Int:=if i=0 then -1 else (fl.getD (i - 1) default).slot
theorem prevF_s (fl:List Flw) (i:Nat) (h:i < fl.length):prevF fl (i + 1)=fl[i].slot:=by
 unfold prevF;rw[if_neg (by omega),Nat.add_sub_cancel,getD_at _ h]
theorem gfls_code:cfun Tryz.prog [] 69=some ⟨(.seq (qR 0 [oX 2 (.mov (.k qF))]) (.seq (qR 1 [oK 3 0]) (.seq (.seq (qR 2 [oM 16 0,oN 17 16,oF 18 0 17,oF 19 17 18,oF 20 0 19,oL 21 1 20,oH 22 21,oK 23 0]) (.block 0 (.loop (.seq (qR 3 [oX 24 (.bin .lss (.t 23) (.t 22))]) (.seq (.cond 24 .skip (.exit 0)) (.seq (.block 1 (.seq (qR 4 [oI 25 4 21 23,oA 26 4 25,oX 5 (.alloc [qZ,qF,qZ,qZ]),oS 4 5 26]) (.seq (qR 5 [oF 27 1 5,oL 28 1 27]) (.cond 28 (qR 6 [oM 29 3,oX 30 (.bin .add (.t 29) (kI 1)),oM 3 30]) .skip)))) (qR 7 [oX 31 (.bin .add (.t 23) (kI 1)),oM 23 31]))))))) (.seq (qR 8 [oK 6 0]) (.seq (.seq (qR 9 [oM 32 0,oN 33 32,oF 34 0 33,oF 35 24 34,oF 36 1 35,oL 37 1 36,oH 38 37,oK 39 0]) (.block 2 (.loop (.seq (qR 10 [oX 40 (.bin .lss (.t 39) (.t 38))]) (.seq (.cond 40 .skip (.exit 2)) (.seq (.block 3 (.seq (qR 11 [oI 41 1 37 39,oL 42 1 41,oM 8 42]) (qR 12 [oM 43 6,oM 44 8,oH 45 44,oX 46 (.bin .add (.t 43) (.t 45)),oM 6 46]))) (qR 13 [oX 47 (.bin .add (.t 39) (kI 1)),oM 39 47]))))))) (.seq (.seq (qR 14 [oM 48 3,oM 49 0,oN 50 49,oF 51 0 50,oF 52 18 51,oL 53 1 52,oH 54 53,oX 55 (.bin .neq (.t 48) (.t 54)),oM 56 55,oG 57 (.mov (.t 6)) 56 false,oG 58 (.mov (.t 0)) 56 false,oG 59 (.nchk (.t 58)) 56 false,oG 60 (.fad 0 (.t 59)) 56 false,oG 61 (.fad 18 (.t 60)) 56 false,oG 62 (.load false 1 (.t 61)) 56 false,oG 63 (.len (.t 62)) 56 false,oG 64 (.bin .neq (.t 57) (.t 63)) 56 false,oX 65 (.pick (.t 56) (.k qT) (.t 64))]) (.cond 65 (.seq (qR 15 [oX 2 (.mov (.k qF))]) .ret) .skip)) (.seq (qR 16 [oK 9 (-1)]) (.seq (.seq (qR 17 [oM 66 0,oN 67 66,oF 68 0 67,oF 69 18 68,oL 70 1 69,oH 71 70,oK 72 0]) (.block 4 (.loop (.seq (qR 18 [oX 73 (.bin .lss (.t 72) (.t 71))]) (.seq (.cond 73 .skip (.exit 4)) (.seq (.block 5 (.seq (qR 19 [oI 74 7 70 72,oA 75 7 74,oX 11 (.alloc [qZ,qZ,qZ,qZ,qF,qZ,qZ]),oS 7 11 75]) (.seq (.draw 20 (qN (oM 77 0) (qN (oN 78 77) (qN (oF 79 0 78) (qN (oF 80 17 79) (qN (oA 81 1 80) (qN (oF 82 0 11) (qN (oA 83 2 82) (.two (qN (oX 84 (.call 33 [(.t 81),(.t 83)])) (qN (oM 76 84) (qN (oE 85 76 0) (qN (oE 86 76 1) (qN (oX 12 (.alloc [qZ,qF,qZ,qZ])) (.one false (oS 4 12 85) (qN (oM 13 86) .done))))))) (.two (qN (oX 12 (.alloc [qZ,qF,qZ,qZ])) (qN (oX 84 (.call 33 [(.t 81),(.t 83)])) (qN (oM 76 84) (qN (oE 85 76 0) (qN (oE 86 76 1) (.one false (oS 4 12 85) (qN (oM 13 86) .done))))))) .top)))))))))) (.seq (.seq (.draw 21 (qN (oM 87 13) (qN (oX 88 (.bin .neq (.t 87) (kI 0))) (qN (oM 89 88) (qN (oG 90 (.fad 0 (.t 11)) 89 false) (qN (oG 91 (.fad 0 (.t 90)) 89 false) (qN (oG 92 (.load false 1 (.t 91)) 89 false) (qN (oG 93 (.mov (.t 9)) 89 false) (qN (oG 94 (.bin .leq (.t 92) (.t 93)) 89 false) (qN (oX 95 (.pick (.t 89) (.k qT) (.t 94))) (qN (oM 96 95) (qN (oG 97 (.fad 2 (.t 12)) 96 false) (qN (oG 98 (.load false 1 (.t 97)) 96 false) (qN (oG 99 (.fad 2 (.t 11)) 96 false) (qN (oG 100 (.load false 1 (.t 99)) 96 false) (qN (oG 101 (.bin .neq (.t 98) (.t 100)) 96 false) (qN (oX 102 (.pick (.t 96) (.k qT) (.t 101))) (qN (oM 103 102) (qN (oG 104 (.fad 3 (.t 12)) 103 false) (qN (oG 105 (.load false 1 (.t 104)) 103 false) (qN (oG 106 (.fad 3 (.t 11)) 103 false) (qN (oG 107 (.load false 1 (.t 106)) 103 false) (qN (oG 108 (.bin .neq (.t 105) (.t 107)) 103 false) (qN (oX 109 (.pick (.t 103) (.k qT) (.t 108))) (qN (oM 110 109) (qN (oG 111 (.fad 5 (.t 11)) 110 false) (qN (oG 112 (.load false 1 (.t 111)) 110 false) (qN (oG 113 (.mov (.t 0)) 110 false) (qN (oG 114 (.nchk (.t 113)) 110 false) (qN (oG 115 (.fad 0 (.t 114)) 110 false) (qN (oG 116 (.fad 0 (.t 115)) 110 false) (qN (oG 117 (.fad 8 (.t 116)) 110 false) (qN (oG 118 (.load false 1 (.t 117)) 110 false) (qN (oG 119 (.call 60 [(.t 112),(kI 0),(.t 118)]) 110 false) (qN (oG 120 (.not (.t 119)) 110 false) (qN (oX 121 (.pick (.t 110) (.k qT) (.t 120))) .done)))))))))))))))))))))))))))))))))))) (.cond 121 (.seq (qR 22 [oX 2 (.mov (.k qF))]) .ret) .skip)) (.seq (qR 23 [oF 122 0 11,oF 123 0 122,oL 124 1 123,oM 9 124]) (.seq (.seq (qR 24 [oM 125 0,oF 126 3 11,oL 127 1 126,oX 128 (.call 87 [(.t 125),(.t 127)]),oM 14 128]) (.seq (qR 25 [oM 129 14,oX 130 (.bin .neq (.t 129) (kI 2)),oM 131 130,oG 132 (.mov (.t 14)) 131 true,oG 133 (.bin .neq (.t 132) (kI 3)) 131 true,oX 134 (.pick (.t 131) (.t 133) (.k qF))]) (.cond 134 (.seq (qR 26 [oX 2 (.mov (.k qF))]) .ret) .skip))) (.seq (qR 27 [oF 135 6 11,oL 136 1 135,oM 137 9,oX 138 (.build [qZ,qZ] [(0,(1,(.t 136))),(1,(1,(.t 137)))]),oX 15 (.alloc [qZ,qZ]),oS 2 15 138]) (.seq (qR 28 [oM 139 0,oN 140 139,oF 141 0 140,oF 142 24 141,oF 143 1 142,oL 144 1 143,oX 145 (.mkfn 111 [(.t 15)]),oX 146 (.call 110 [(.t 144),(.t 145)]),oX 147 (.not (.t 146))]) (.cond 147 (.seq (qR 29 [oX 2 (.mov (.k qF))]) .ret) .skip))))))))) (qR 30 [oX 148 (.bin .add (.t 72) (kI 1)),oM 72 148]))))))) (.seq (qR 31 [oX 2 (.mov (.k qT))]) .ret))))))))),[(.t 2)],149⟩:=by kernel_rfl
theorem gfls_pf (g:Gt) (n:Nat) (h:Rest g n):PF Tryz.prog 69 [.pc g.P] (.bool true):=by
 have hm:=h.mid
 have hf40:=fl_le hm.fs
 have ht40:=hm.tok.2.1
 have htl:=h.tm_len
 have hlr:=lrT_len g.wn g.tm
 have hua:=usedT_all hm.fs
 have hla:=lenT_all g.wn g.tm
 have hbl:=byP_len g.tm (plN g.wn)
 obtain ⟨P,hP⟩:∃ P,P=g.P:=⟨_,rfl⟩
 rw[← hP]
 have hP':=hP
 simp only[Gt.P,Gt.W,Gt.cells,List.cons_append,List.nil_append] at hP'
 refine pO gfls_code [0,2,3,5,6,8,9,11,12,13,14,15,21,22,23,24,28,37,38,39,40,65,70,71,72,73,121,134,147] [] fun B hBN hB0 => ?_
 simp[hP']
 rw[← hP']
 refine W.loopS (fun y:Nat => ⟨[(23,I y),(22,I g.tb.length),(21,.rows 4 (g.tb.map TSlot.D)),(3,I (usedT g.tb y)),(0,.pc P)],[],0⟩)
  (fun m i => m=g.tb.length - i ∧ i ≤ g.tb.length) ?_ ?_
 ·exact ⟨_,0,(gr0 [] hB0 (by simp[usedT]) (by simp[usedT]) (.inr rfl)),rfl,by omega⟩
 rintro m i ⟨hmm,hi⟩
 refine acode_sound [0,2,3,5,6,8,9,11,12,13,14,15,21,22,23,24,28,37,38,39,40,65,70,71,72,73,121,134,147] [] _ _ _ ?_
 by_cases hlt:i < g.tb.length
 ·have hus:=usedT_succ g.tb i hlt
  have hub:0 ≤ usedT g.tb i ∧ usedT g.tb i ≤ i:=by
   unfold usedT
   have:(g.tb.take i).countP (·.used) ≤ (g.tb.take i).length:=List.countP_le_length
   rw[List.length_take] at this
   omega
  obtain ⟨s,hs⟩:∃ s,s=g.tb[i]:=⟨_,rfl⟩
  rw[← hs] at hus
  have ii:InR ((i:Int) + 1):=inW (by omega) (by omega)
  have iu:InR (usedT g.tb i + 1):=inW (by omega) (by omega)
  cases hu:s.used with
  | true =>
   rw[hu,if_pos rfl] at hus
   simp[hlt,← hs,TSlot.D,hu,ii,iu]
   exact ⟨_,i + 1,(gr0 [] hB0 (by simp[hus]) (by simp[hus]) (.inr rfl)),by omega,rfl,by omega⟩
  | false =>
   rw[hu,if_neg (by simp),Int.add_zero] at hus
   simp[hlt,← hs,TSlot.D,hu,ii]
   exact ⟨_,i + 1,(gr0 [] hB0 (by simp[hus]) (by simp[hus]) (.inr rfl)),by omega,rfl,by omega⟩
 obtain rfl:i=g.tb.length:=by omega
 rw[hua]
 simp[hP',hlr]
 rw[← hP']
 clear hua hmm hi hlt
 refine W.loopS (fun y:Nat => ⟨[(39,I y),(38,I 25),(37,.rows 1 (lrT g.wn g.tm)),(6,I (lenT g.wn g.tm y)),(3,I g.fl.length),(0,.pc P)],[],0⟩)
  (fun m i => m=25 - i ∧ i ≤ 25) ?_ ?_
 ·exact ⟨_,0,(gr0 [] hB0 (by simp[lenT]) (by simp[lenT]) (.inr rfl)),rfl,by omega⟩
 rintro m i ⟨hmm,hi⟩
 refine acode_sound [0,2,3,5,6,8,9,11,12,13,14,15,21,22,23,24,28,37,38,39,40,65,70,71,72,73,121,134,147] [] _ _ _ ?_
 by_cases hlt:i < 25
 ·have hls:=lenT_succ g.wn g.tm i hlt
  have hlb:=lenT_bd g.wn g.tm i hi
  have hlb2:=lenT_bd g.wn g.tm (i + 1) hlt
  have hil:i < (byP g.tm (plN g.wn)).length:=by omega
  have hbi:(byP g.tm (plN g.wn))[i]=g.tm.filter fun t => decide (plN g.wn t=i):=by simp[byP]
  have hrow:(lrT g.wn g.tm)[i]? = some [.rows 2 ((g.tm.filter fun t => decide (plN g.wn t=i)).map tmE)]:=by
   unfold lrT lsR
   rw[List.getElem?_map,zE hil,hbi];rfl
  have hrow2:∀ h,(lrT g.wn g.tm)[i]'h=[.rows 2 ((g.tm.filter fun t => decide (plN g.wn t=i)).map tmE)]:=fun h => by
   rw[zE h] at hrow;exact Option.some.inj hrow
  have hlt2:(i:Int) < 25:=by omega
  have ii:InR ((i:Int) + 1):=inW (by omega) (by omega)
  generalize g.tm.filter (fun t => decide (plN g.wn t=i))=l at hls hrow hrow2
  have il:InR (lenT g.wn g.tm i + (l.length:Int)):=inW (by omega) (by omega)
  simp[hlt,hlt2,hlr,hrow,hrow2,ii,il]
  exact ⟨_,i + 1,(gr0 [] hB0 (by simp[hls]) (by simp[hls]) (.inr rfl)),by omega,rfl,by omega⟩
 obtain rfl:i=25:=by omega
 rw[hla,htl]
 simp[hP']
 rw[← hP']
 clear hla hmm hi hlt
 refine W.loopS (fun y:Nat => ⟨[(72,I y),(71,I g.fl.length),(70,.rows 7 (g.fl.map Flw.D)),(9,I (prevF g.fl y)),(0,.pc P)],[],0⟩)
  (fun m i => m=g.fl.length - i ∧ i ≤ g.fl.length) ?_ ?_
 ·exact ⟨_,0,(gr0 [] hB0 (by simp[prevF]) (by simp[prevF]) (.inr rfl)),rfl,by omega⟩
 rintro m i ⟨hmm,hi⟩
 refine acode_sound [0,2,3,5,6,8,9,11,12,13,14,15,21,22,23,24,28,37,38,39,40,65,70,71,72,73,121,134,147] [] _ _ _ ?_
 by_cases hlt:i < g.fl.length
 ·have hfm:=List.getElem_mem hlt
  have hget:=tget_pf g.tb g.fl[i].slot g.fl[i].gen hm.tok
  rw[get_flow hm hfm] at hget
  have hfe:=hm.fe _ hfm
  have hfl:=hm.flow hfm
  have hlate:=h.late _ hfm
  have hpv:prevF g.fl i < g.fl[i].slot:=by
   unfold prevF
   split
   ·omega
   ·rw[getD_at _ (by omega)]
    exact List.pairwise_iff_getElem.1 hm.fs.so (i - 1) i (by omega) hlt (by omega)
  have hps:=prevF_s g.fl i hlt
  have hst:=gstate_pf g g.fl[i].backend hm.bk
  have hwi:=cwithin_pf g.fl[i].tries 0 g.c.c8
  rw[withinB_t ⟨hfe.1,hfe.2.1⟩] at hwi
  have hti:((g.fl[i].due,g.fl[i].slot):Int × Int) ∈ g.tm:=(hm.tt _).2 ⟨_,hfm,hlate,rfl⟩
  have hli:=lists_mem (now:=g.wn) hti
  have hcf:=tlcf_pf (byP g.tm (plN g.wn)) 111 [I g.fl[i].due,I g.fl[i].slot] (fun l => decide ((g.fl[i].due,g.fl[i].slot) ∈ l)) (by omega) (fun l hl => gfls1_pf l _ _ (by
   obtain ⟨p,_,rfl⟩:=List.mem_map.1 hl
   exact Nat.le_trans (List.length_filter_le ..) (by omega))) (by obtain ⟨l,h1,h2⟩:=hli;exact ⟨l,h1,decide_eq_true h2⟩)
  have hlrd:lsR (byP g.tm (plN g.wn))=lrT g.wn g.tm:=rfl
  rw[hlrd] at hcf
  obtain ⟨f,hf⟩:∃ f,f=g.fl[i]:=⟨_,rfl⟩
  rw[← hf] at hget hfe hpv hps hst hwi hcf
  have ii:InR ((i:Int) + 1):=inW (by omega) (by omega)
  have hpn:¬ f.slot ≤ prevF g.fl i:=by omega
  simp only[TSlot.D] at hget
  rw[← hP] at hst
  rcases hfe.2.2.2.2 with h2 | h2
  ·rw[h2] at hst
   repeat' (first
    | simp[hP',hlt,← hf,Flw.D,hpn,ii]
    | refine ⟨wcS ?_,?_⟩
    | (refine WCall.pf (hget) ?_ ?_ ?_ ?_;iterate 3 (solve|simp[hP',hlt,← hf,Flw.D,hpn,ii]))
    | (refine WCall.pf (hst) ?_ ?_ ?_ ?_;iterate 3 (solve|simp[hP',hlt,← hf,Flw.D,hpn,ii]))
    | (refine WCall.pf (hwi) ?_ ?_ ?_ ?_;iterate 3 (solve|simp[hP',hlt,← hf,Flw.D,hpn,ii]))
    | (refine WCall.pf (hcf) ?_ ?_ ?_ ?_;iterate 3 (solve|simp[hP',hlt,← hf,Flw.D,hpn,ii]))
    | with_reducible refine aI ?_ ?_ ?_)
   all_goals exact ⟨_,i + 1,(gr0 [] hB0 (by simp[hP',hps]) (by simp[hP',hps]) (.inr rfl)),by omega,rfl,by omega⟩
  ·rw[h2] at hst
   repeat' (first
    | simp[hP',hlt,← hf,Flw.D,hpn,ii]
    | refine ⟨wcS ?_,?_⟩
    | (refine WCall.pf (hget) ?_ ?_ ?_ ?_;iterate 3 (solve|simp[hP',hlt,← hf,Flw.D,hpn,ii]))
    | (refine WCall.pf (hst) ?_ ?_ ?_ ?_;iterate 3 (solve|simp[hP',hlt,← hf,Flw.D,hpn,ii]))
    | (refine WCall.pf (hwi) ?_ ?_ ?_ ?_;iterate 3 (solve|simp[hP',hlt,← hf,Flw.D,hpn,ii]))
    | (refine WCall.pf (hcf) ?_ ?_ ?_ ?_;iterate 3 (solve|simp[hP',hlt,← hf,Flw.D,hpn,ii]))
    | with_reducible refine aI ?_ ?_ ?_)
   all_goals exact ⟨_,i + 1,(gr0 [] hB0 (by simp[hP',hps]) (by simp[hP',hps]) (.inr rfl)),by omega,rfl,by omega⟩
 ·obtain rfl:i=g.fl.length:=by omega
  simp
end Go.Proofs.YtibemmkfcjlmpaaGreat
namespace Go.Proofs.YtibemmkfcjlmpaaGreat
open Go.RowKit
def nilK (k:Nat) (d:D):D:=match d with | .nil0 => .rows k [] | d => d
theorem Gh.rowK {B:Base} {st:St} (k id sz:Nat) (xs:List (List D)) (hh:hget st.heap id=some (.row sz xs)):Gh B st ⟨st.env,eput st.heap id (.row sz (xs.map (List.map (nilK k)))),st.nx⟩:=by
 intro s Z a w hr
 have hob:=hr.h.ob _ _ hh
 have hlt:=hr.h.lt _ _ hh
 refine ⟨s,Z,hr.env,hr.elt,hr.size,hr.defers,?_⟩
 have hnew:ObOk s Z w (.row sz (xs.map (List.map (nilK k)))) (s id):=RowOk.map (nilK k) hob fun row hrow d hd u hu => by
  cases d with
  | nil0 => cases hu;exact VT.rnil _ _ _
  | _ => exact hu
 have hhe:∀ i ob,hget (eput st.heap id (.row sz (xs.map (List.map (nilK k))))) i=some ob → ∃ ob0,hget st.heap i=some ob0:=fun i ob h => by
  rw[hget_eput] at h
  split at h
  ·rename_i e;subst e;exact ⟨_,hh⟩
  ·exact ⟨_,h⟩
 refine ⟨fun i ob h => ?_,fun i ob h => ?_,fun i i' ob ob' b h h' hne hb => ?_,hr.h.zok,fun i ob b o h hb => ?_,fun i ob b h hb => ?_,hr.h.fr,hr.h.n0,hr.h.bs,hr.h.bz,hr.h.bn⟩
 ·have h9:hget (eput st.heap id (.row sz (xs.map (List.map (nilK k))))) i=some ob:=h
  rw[hget_eput] at h9
  by_cases e:i=id
  ·rw[if_pos e] at h9;rw[e,← Option.some.inj h9];exact hnew
  ·rw[if_neg e] at h9;exact hr.h.ob i ob h9
 ·have h9:hget (eput st.heap id (.row sz (xs.map (List.map (nilK k))))) i=some ob:=h
  rw[hget_eput] at h9
  by_cases e:i=id
  ·rw[if_pos e] at h9;rw[e,← Option.some.inj h9];exact ⟨hlt.1,trivial⟩
  ·rw[if_neg e] at h9;exact hr.h.lt i ob h9
 ·obtain ⟨o1,h1⟩:=hhe i ob h
  obtain ⟨o2,h2⟩:=hhe i' ob' h'
  exact hr.h.apart i i' o1 o2 b h1 h2 hne hb
 ·obtain ⟨o1,h1⟩:=hhe i ob h
  exact hr.h.zap i o1 b o h1 hb
 ·obtain ⟨o1,h1⟩:=hhe i ob h
  exact hr.h.mine i o1 b h1 hb
theorem hl_nil (hl:List Hlth) (b:Nat):((hl.map Hlth.D).set b [.nil0,.bool false,I 0,I 0]).map (List.map (nilK 1))=(hl.set b hzero).map Hlth.D:=by
 rw[List.map_set,List.map_map,List.map_set]
 congr 1
theorem hzero_ok {w:Wtch} (h:w.Ok):hzero.Ok w:=by
 obtain ⟨w1,_⟩:=h
 refine ⟨?_,by simp[hzero],by simp[hzero],by simp[hzero],by simp[hzero],by simp[hzero]⟩
 simp only[hzero,List.length_nil]
 omega
def midF {α:Type} (f:α → α) (l:List α) (i:Nat):List α:=(l.take i).map f ++ l.drop i
theorem midF_0 {α:Type} (f:α → α) (l:List α):midF f l 0=l:=by simp[midF]
theorem midF_all {α:Type} (f:α → α) (l:List α):midF f l l.length=l.map f:=by simp[midF]
theorem midF_len {α:Type} (f:α → α) (l:List α) (i:Nat) (h:i ≤ l.length):(midF f l i).length=l.length:=by simp[midF];omega
theorem midF_get {α:Type} (f:α → α) (l:List α) (i:Nat) (h:i < l.length):(midF f l i)[i]? = some l[i]:=by
 unfold midF
 rw[List.getElem?_append_right (by simp;omega)]
 simp[Nat.min_eq_left (Nat.le_of_lt h),zE h]
theorem midF_set {α:Type} (f:α → α) (l:List α) (i:Nat) (h:i < l.length):(midF f l i).set i (f l[i])=midF f l (i + 1):=by
 unfold midF
 have hl:((l.take i).map f).length=i:=by simp;omega
 rw[List.set_append_right _ _ (by omega),hl,Nat.sub_self,List.take_succ_eq_append_getElem h,List.map_append,List.append_assoc]
 congr 1
 rw[List.drop_eq_getElem_cons h]
 rfl
theorem wokenH_app (x:Int):∀ (l:List Int) (hl:List Hlth),wokenH (l ++ [x]) hl=(wokenH l hl).set x.toNat hzero
 | [],hl => rfl
 | y :: l,hl => by simp only[List.cons_append,wokenH];exact wokenH_app x l _
theorem wokenH_take (l:List Int) (i:Nat) (h:i < l.length) (hl:List Hlth):wokenH (l.take (i + 1)) hl=(wokenH (l.take i) hl).set l[i].toNat hzero:=by
 rw[List.take_succ_eq_append_getElem h,wokenH_app]
def Gt.tkA (g:Gt) (i:Nat):Gt:=
 { g with now:=g.now + 1,wn:=g.wn + 1,tm:=g.tm.filter (fun t => decide (t.1 ≠ g.wn + 1)),L:=wakeM g.L (g.now + 1),ws:=wokenW (wakeM g.L (g.now + 1)) ((wokenM g.L).take i) g.ws,hl:=wokenH ((wokenM g.L).take i) g.hl }
def Gt.tkB (g:Gt) (i:Nat):Gt:={ g.tkA (wokenM g.L).length with hl:=midF (fun h => (backH h (g.now + 1)).1) (wokenH (wokenM g.L) g.hl) i }
theorem tkB_0 (g:Gt):g.tkB 0=g.tkA (wokenM g.L).length:=by
 unfold Gt.tkB Gt.tkA
 rw[midF_0,List.take_length]
theorem tkB_all (g:Gt):g.tkB (wokenH (wokenM g.L) g.hl).length=g.tick0:=by
 unfold Gt.tkB Gt.tkA Gt.tick0
 rw[midF_all,List.take_length]
theorem drop_out (g:Gt) (i:Nat) (o:Outp):(g.drop i o).out.length ≤ g.out.length + 2:=by
 unfold Gt.drop
 refine Nat.le_trans (spared_out _ _) ?_
 simp[Gt.dropA]
theorem failed_out (g:Gt) (i:Nat) (why:Int):(g.failed i why).out.length ≤ g.out.length + 2:=by
 unfold Gt.failed
 dsimp only
 split
 ·exact drop_out _ _ _
 ·split
  ·exact drop_out _ _ _
  ·split
   ·refine Nat.le_trans (spared_out _ _) ?_
    simp[Gt.moved,Gt.note]
   ·simp[Gt.moved,Gt.note]
theorem off1_out (g:Gt) (s:Int):(g.off1 s).out.length ≤ g.out.length + 2:=by
 unfold Gt.off1
 dsimp only
 split
 ·exact drop_out _ _ _
 ·exact failed_out _ _ _
end Go.Proofs.YtibemmkfcjlmpaaGreat
namespace Go.Proofs.YtibemmkfcjlmpaaGreat
open Go.RowKit
attribute [local simp] AK_at acode_seq acode_region acode_draw acode_cond CB_u acode_block acode_loop acode_exit acode_scope acode_ret acode_skip seqQ_n seqQ_e seqQ_r blockQ_n blockQ_e blockQ_r TK_at OK_at SK_at aops_nil aops_cons asch_done asch_one asch_two asch_top astep aop_eq isLoud aloud aloud1 isWrite qv evS strip gof eget hget putO eput herase oks opnds gS afin afin0 binD arith D.cells takeD fillD keep trim envOf Fin aresl aresv resD argOk pickV isP deq deqs boundD slD lenD isT isSl ptrIds chunks mn_min mx_max splice_one splice_more Rbr_at Rfr_at frR frV frC flatC brwR brwV brwC omap leR leV leC leL leVL rnR rnV rnC rnO rho_0 hputs herases rnS LtS LtR LtV LtC LtO lget noV noC flatR flatV rho
attribute [local simp ↓] CB_t CB_f
theorem gtick_code:cfun Tryz.prog [] 55=some ⟨(.seq (qR 0 [oM 24 0,oN 25 24,oF 26 0 25,oF 27 24 26,oA 28 2 27,oX 29 (.call 91 [(.t 28)]),oM 23 29,oE 30 23 0,oE 31 23 1,oE 32 23 2,oX 2 (.alloc [qZ,.nil0]),oS 2 2 30,oM 3 31,oM 4 32]) (.seq (qR 1 [oM 33 0,oA 34 2 2,oN 35 33,oF 36 0 35,oF 37 24 36,oS 2 37 34]) (.seq (qR 2 [oM 38 0,oN 39 38,oF 40 0 39,oF 41 16 40,oL 42 1 41,oX 43 (.bin .add (.t 42) (kI 1)),oN 44 38,oF 45 0 44,oF 46 16 45,oS 1 46 43]) (.seq (.draw 3 (qN (oM 48 0) (qN (oN 49 48) (qN (oF 50 0 49) (qN (oF 51 19 50) (qN (oA 52 2 51) (qN (oM 53 0) (qN (oN 54 53) (qN (oF 55 0 54) (qN (oF 56 16 55) (qN (oL 57 1 56) (.two (qN (oX 58 (.call 92 [(.t 52),(.t 57)])) (qN (oM 47 58) (qN (oE 59 47 0) (qN (oE 60 47 1) (qN (oE 61 47 2) (qN (oX 5 (.alloc [.nil0,.nil0])) (.one false (oS 2 5 59) (qN (oM 6 60) (qN (oM 7 61) .done))))))))) (.two (qN (oX 5 (.alloc [.nil0,.nil0])) (qN (oX 58 (.call 92 [(.t 52),(.t 57)])) (qN (oM 47 58) (qN (oE 59 47 0) (qN (oE 60 47 1) (qN (oE 61 47 2) (.one false (oS 2 5 59) (qN (oM 6 60) (qN (oM 7 61) .done))))))))) .top))))))))))))) (.seq (qR 4 [oM 62 0,oA 63 2 5,oN 64 62,oF 65 0 64,oF 66 19 65,oS 2 66 63]) (.seq (.seq (qR 5 [oM 67 6,oH 68 67,oK 69 0]) (.block 0 (.loop (.seq (qR 6 [oX 70 (.bin .lss (.t 69) (.t 68))]) (.seq (.cond 70 .skip (.exit 0)) (.seq (.block 1 (.seq (qR 7 [oI 71 1 67 69,oL 72 1 71,oM 9 72]) (.seq (qR 8 [oM 74 0,oN 75 74,oF 76 0 75,oF 77 19 76,oA 78 2 77,oM 79 9,oX 80 (.call 93 [(.t 78),(.t 79)]),oM 73 80,oE 81 73 0,oE 82 73 1,oX 10 (.alloc [qZ,qZ,qZ,qZ,qZ,qZ]),oS 6 10 81,oM 11 82]) (.seq (.draw 9 (qN (oM 84 0) (qN (oM 85 0) (qN (oN 86 85) (qN (oF 87 0 86) (qN (oF 88 21 87) (qN (oA 89 1 88) (qN (oM 90 9) (qN (oF 91 2 10) (qN (oL 92 1 91) (qN (oX 93 (.call 94 [(.t 89),(.t 90),(.t 92)])) (qN (oM 83 93) (qN (oE 94 83 0) (qN (oE 95 83 1) (qN (oN 96 84) (qN (oF 97 0 96) (qN (oF 98 21 97) (.one false (oS 1 98 94) .done)))))))))))))))))) (qR 10 [oM 99 0,oN 100 99,oF 101 0 100,oF 102 22 101,oL 103 1 102,oM 104 9,oX 105 (.build [.nil0,qF,qZ,qZ] []),oI 106 4 103 104,oS 4 106 105]))))) (qR 11 [oX 107 (.bin .add (.t 69) (kI 1)),oM 69 107]))))))) (.seq (.seq (qR 12 [oM 108 0,oN 109 108,oF 110 0 109,oF 111 22 110,oL 112 1 111,oH 113 112,oK 114 0]) (.block 2 (.loop (.seq (qR 13 [oX 115 (.bin .lss (.t 114) (.t 113))]) (.seq (.cond 115 .skip (.exit 2)) (.seq (.block 3 (.seq (qR 14 [oM 116 114,oI 117 4 112 114,oA 118 4 117,oX 13 (.alloc [.nil0,qF,qZ,qZ]),oM 12 116,oS 4 13 118]) (.draw 15 (qN (oM 120 0) (qN (oN 121 120) (qN (oF 122 0 121) (qN (oF 123 22 122) (qN (oL 124 1 123) (qN (oM 125 12) (qN (oM 126 0) (qN (oN 127 126) (qN (oF 128 0 127) (qN (oF 129 0 128) (qN (oF 130 13 129) (qN (oA 131 3 130) (qN (oA 132 4 13) (qN (oM 133 0) (qN (oN 134 133) (qN (oF 135 0 134) (qN (oF 136 16 135) (qN (oL 137 1 136) (qN (oX 138 (.call 68 [(.t 131),(.t 132),(.t 137)])) (qN (oM 119 138) (qN (oE 139 119 0) (qN (oE 140 119 1) (qN (oE 141 119 2) (qN (oI 142 4 124 125) (.one false (oS 4 142 139) .done)))))))))))))))))))))))))))) (qR 16 [oX 143 (.bin .add (.t 114) (kI 1)),oM 114 143]))))))) (.seq (.seq (qR 17 [oM 144 3,oH 145 144,oK 146 0]) (.block 4 (.loop (.seq (qR 18 [oX 147 (.bin .lss (.t 146) (.t 145))]) (.seq (.cond 147 .skip (.exit 4)) (.seq (.block 5 (.seq (qR 19 [oI 148 1 144 146,oL 149 1 148,oM 15 149]) (.seq (qR 20 [oM 150 0,oM 151 15,oX 152 (.call 95 [(.t 150),(.t 151)]),oM 16 152]) (.seq (qR 21 [oM 153 0,oN 154 153,oF 155 0 154,oF 156 18 155,oL 157 1 156,oM 158 16,oI 159 7 157 158,oF 160 4 159,oL 161 1 160]) (.cond 161 (qR 22 [oM 162 0,oM 163 16,oX 164 (.build [qZ,qZ,qZ,qZ,qZ,qZ,qZ] [(0,(1,(kI 6))),(6,(1,(kI 1)))]),oX 165 (.call 96 [(.t 162),(.t 163),(.t 164)])]) (qR 23 [oM 166 0,oM 167 16,oX 168 (.call 97 [(.t 166),(.t 167),(kI 5)])])))))) (qR 24 [oX 169 (.bin .add (.t 146) (kI 1)),oM 146 169]))))))) (.seq (qR 25 [oM 170 0,oN 171 170,oF 172 0 171,oF 173 19 172,oF 174 0 173,oL 175 1 174,oH 176 175,oK 177 0]) (.block 6 (.loop (.seq (qR 26 [oX 178 (.bin .lss (.t 177) (.t 176))]) (.seq (.cond 178 .skip (.exit 6)) (.seq (.block 7 (.seq (qR 27 [oI 179 6 175 177,oA 180 6 179,oX 18 (.alloc [qZ,qZ,qZ,qZ,qZ,qZ]),oS 6 18 180]) (.seq (.seq (.draw 28 (qN (oF 181 1 18) (qN (oL 182 1 181) (qN (oX 183 (.bin .neq (.t 182) (kI 3))) (qN (oM 184 183) (qN (oG 185 (.fad 4 (.t 18)) 184 false) (qN (oG 186 (.load false 1 (.t 185)) 184 false) (qN (oG 187 (.mov (.t 0)) 184 false) (qN (oG 188 (.nchk (.t 187)) 184 false) (qN (oG 189 (.fad 0 (.t 188)) 184 false) (qN (oG 190 (.fad 16 (.t 189)) 184 false) (qN (oG 191 (.load false 1 (.t 190)) 184 false) (qN (oG 192 (.bin .gtr (.t 186) (.t 191)) 184 false) (qN (oX 193 (.pick (.t 184) (.k qT) (.t 192))) .done)))))))))))))) (.cond 193 (.exit 7) .skip)) (.seq (.draw 29 (qN (oM 195 0) (qN (oN 196 195) (qN (oF 197 0 196) (qN (oF 198 17 197) (qN (oA 199 1 198) (qN (oF 200 0 18) (qN (oL 201 1 200) (qN (oX 202 (.call 98 [(.t 199),(.t 201)])) (qN (oM 194 202) (qN (oE 203 194 0) (qN (oE 204 194 1) (qN (oM 19 203) (qN (oM 20 204) .done)))))))))))))) (.seq (qR 30 [oM 205 19,oH 206 205,oK 207 0]) (.block 8 (.loop (.seq (qR 31 [oX 208 (.bin .lss (.t 207) (.t 206))]) (.seq (.cond 208 .skip (.exit 8)) (.seq (.block 9 (.seq (qR 32 [oI 209 2 205 207,oA 210 2 209,oX 22 (.alloc [qZ,qZ]),oS 2 22 210]) (qR 33 [oM 211 0,oM 212 0,oF 213 0 22,oL 214 1 213,oX 215 (.call 95 [(.t 212),(.t 214)]),oX 216 (.build [qZ,qZ,qZ,qZ,qZ,qZ,qZ] [(0,(1,(kI 6))),(6,(1,(kI 2)))]),oX 217 (.call 96 [(.t 211),(.t 215),(.t 216)])]))) (qR 34 [oX 218 (.bin .add (.t 207) (kI 1)),oM 207 218]))))))))))) (qR 35 [oX 219 (.bin .add (.t 177) (kI 1)),oM 177 219]))))))))))))))),[],220⟩:=by kernel_rfl
theorem gtick_mf (g:Gt) (n:Nat) (h:Rest g n) (hn1:n + 1 ≤ 1000000) (ho:g.out=[]):MF Tryz.prog 55 [] g g.tick:=by
 have hmid:=h.mid
 have h0:=h.tick0 hn1
 have hnow:=hmid.n1
 have hn0:=hmid.n0
 have hwn:=hmid.wn
 have hll:=hmid.bk.ll
 have hhn:=hmid.hn
 have hf40:=fl_le hmid.fs
 have ht40:=hmid.tok.2.1
 have htl:=h.tm_len
 have hadv:PF Tryz.prog 91 [.agg [I g.now,.rows 1 (lrT g.now g.tm)]] (.tup [.agg [I (g.now + 1),.rows 1 (lrT (g.now + 1) (g.tm.filter fun t => decide (t.1 ≠ g.now + 1)))],.rows 1 ((g.tm.filter fun t => decide (t.1=g.now + 1)).map fun t => [I t.2]),I 0]):=wadv_pf g.now g.tm hmid.wh (by omega)
 have hoffe:((g.tm.filter fun t => decide (t.1=g.now + 1)).map fun t => [I t.2])=(offM g).map fun z => [I z]:=by
  unfold offM;rw[hwn,List.map_map];rfl
 rw[hoffe] at hadv
 have hoffl:(offM g).length ≤ 40:=by
  unfold offM
  rw[List.length_map]
  exact Nat.le_trans (List.length_filter_le ..) (by omega)
 have hoff:∀ s,s ∈ offM g ↔ ∃ f ∈ g.fl,f.due=g.now + 1 ∧ f.slot=s:=fun s => by
  unfold offM
  rw[List.mem_map]
  constructor
  ·rintro ⟨t,ht,rfl⟩
   obtain ⟨h1,h2⟩:=List.mem_filter.1 ht
   obtain ⟨f,hf,_,rfl⟩:=(hmid.tt t).1 h1
   rw[hmid.wn] at h2
   exact ⟨f,hf,by simpa using h2,rfl⟩
  ·rintro ⟨f,hf,h1,rfl⟩
   refine ⟨(f.due,f.slot),List.mem_filter.2 ⟨(hmid.tt _).2 ⟨f,hf,by omega,rfl⟩,by rw[hmid.wn];simp[h1]⟩,rfl⟩
 have hoffn:(offM g).Nodup:=(hmid.wh.ids).sublist (List.filter_sublist.map _)
 have hoffx:∀ s ∈ offM g,∃ f ∈ g.tick0.fl,f.slot=s:=fun s hs => by
  obtain ⟨f,hf,_,e⟩:=(hoff s).1 hs
  exact ⟨f,hf,e⟩
 have hwake:=lwake_pf g.L g.R (g.now + 1) hmid.bk (by omega) (by omega)
 unfold bookD at hwake
 have hwl:(wokenM g.L).length ≤ 12:=Nat.le_trans (woken_len g.L) hll
 have hbk1:BookOk (wakeM g.L (g.now + 1)) g.R:=h0.bk
 have hws:WOk g.ws:=by rw[hmid.ws];exact wsOf_ok hmid.bk.lok
 have hiN:InR (g.now + 1):=inW (by omega) (by omega)
 have hWl:=wokenH_len (wokenM g.L) g.hl
 have hHok:∀ q ∈ wokenH (wokenM g.L) g.hl,q.Ok g.c.wat:=fun q hq => by
  rcases wokenH_mem _ _ _ hq with hq | rfl
  ·exact (hmid.hok q hq).1
  ·exact hzero_ok hmid.c.w
 have hwat:=hmid.c.w
 have hA0:g.tkA 0={ g with now:=g.now + 1,wn:=g.now + 1,tm:=g.tm.filter (fun t => decide (t.1 ≠ g.now + 1)),L:=wakeM g.L (g.now + 1) }:=by
  unfold Gt.tkA;rw[hwn];rfl
 have hBz:=tkB_0 g
 have hBl:=tkB_all g
 rw[hWl,hhn] at hBl
 obtain ⟨Wk,hW⟩:∃ Wk,Wk=wokenM g.L:=⟨_,rfl⟩
 obtain ⟨off,hOff⟩:∃ off,off=offM g:=⟨_,rfl⟩
 have hwt:=fun i hi => woken_take hmid i hi
 have hAs:∀ i (hi:i < Wk.length),∃ b w:Nat,b < 12 ∧ 1 ≤ w ∧ w ≤ 8 ∧ Wk[i]=(b:Int) ∧ (lifeM (wakeM g.L (g.now + 1)) (b:Int)).weight=(w:Int) ∧ (g.tkA i).ws.getD b 0=0 ∧
   g.tkA (i + 1)={ g.tkA i with ws:=(g.tkA i).ws.set b w,hl:=(g.tkA i).hl.set b hzero }:=fun i hi => by
  subst hW
  obtain ⟨e1,e2,e3,e4,e5,e6⟩:=hwt i hi
  refine ⟨(wokenM g.L)[i].toNat,(lifeM (wakeM g.L (g.now + 1)) (wokenM g.L)[i]).weight.toNat,by omega,by omega,by omega,by omega,?_,e6,?_⟩
  ·rw[show (((wokenM g.L)[i].toNat:Nat):Int)=(wokenM g.L)[i] by omega];omega
  ·unfold Gt.tkA
   rw[e1,wokenH_take _ _ hi]
 have hAl:(g.tkA Wk.length)=g.tkB 0:=by rw[hBz,hW]
 have hdr:∀ q:Hlth,List.drop 4 q.D=[]:=fun _ => rfl
 rw[← hW] at hwl
 rw[← hOff] at hoffl hoff hoffn hoffx
 have hAhl:∀ i,(g.tkA i).hl.length=12:=fun i => by unfold Gt.tkA;simp only;rw[wokenH_len];exact hhn
 refine MF.of ?_
 unfold Gt.H Gt.cells
 refine hO gtick_code [0,2,3,5,6,9,10,12,13,15,16,18,19,22,67,68,69,70,112,113,114,115,144,145,146,147,161,175,176,177,178,193,205,206,207,208] [] fun B hBN hB0 => ?_
 repeat' (first
  | simp[hwn,hiN]
  | (refine WCall.pf (hadv) ?_ ?_ ?_ ?_;iterate 3 (solve|simp[hwn,hiN]))
  | (refine ⟨WCall.pf (hadv) ?_ ?_ ?_ ?_,?_⟩;(focus (simp;done));(focus (simp[hwn,hiN];done));(focus (simp[hwn,hiN];done)))
  | (refine WCall.pf (hwake) ?_ ?_ ?_ ?_;iterate 3 (solve|simp[hwn,hiN]))
  | (refine ⟨WCall.pf (hwake) ?_ ?_ ?_ ?_,?_⟩;(focus (simp;done));(focus (simp[hwn,hiN];done));(focus (simp[hwn,hiN];done)))
  | with_reducible refine aI ?_ ?_ ?_)
 all_goals
  rw[← hW,← hOff]
  refine W.loopS (fun y:Nat => ⟨[(69,I y),(68,I Wk.length),(67,.rows 1 (Wk.map fun z => [I z])),(3,.rows 1 (off.map fun z => [I z])),(0,.ptr 0 0)],(g.tkA y).H 3,4⟩)
   (fun m i => m=Wk.length - i ∧ i ≤ Wk.length ∧ WOk (g.tkA i).ws) ?_ ?_
  ·exact ⟨_,0,(Gh.ren [0,1,2,3] (by simp[hB0]) (by simp[hB0] <;> decide) (by simp[Gt.H,Gt.cells,hA0]) (by simp[Gt.H,Gt.cells,hA0]) (.inl (by simp[Gt.H,Gt.cells,hA0]))),rfl,by omega,by rw[hA0];exact hws⟩
  rintro m i ⟨hm,hi,hwi⟩
  refine acode_sound [0,2,3,5,6,9,10,12,13,15,16,18,19,22,67,68,69,70,112,113,114,115,144,145,146,147,161,175,176,177,178,193,205,206,207,208] [] _ _ _ ?_
  by_cases hlt:i < Wk.length
  ·obtain ⟨b,w,b12,w1,w8,hWb,hwe,hg0,hAi⟩:=hAs i hlt
   have hof:=lof_pf (g.tkA i).L (g.tkA i).R (b:Int) hbk1
   have hadd:=radd_pf (g.tkA i).ws hwi b w b12 ⟨w1,w8⟩ hg0
   have hof1:(ofM (g.tkA i).L (b:Int)).1.weight=(w:Int):=hwe
   have hbl:b < (g.tkA i).hl.length:=by rw[hAhl];omega
   unfold bookD at hof
   generalize ofM (g.tkA i).L (b:Int)=x at hof hof1
   obtain ⟨x,xe⟩:=x
   simp only at hof hof1
   have ii:InR ((i:Int) + 1):=inW (by omega) (by omega)
   have hwi2:=hwi.set b w w8
   dsimp only
   simp only[Lif.D] at hof
   repeat' (first
    | simp[Gt.H,Gt.cells,hlt,hWb,hof1,hbl,ii,hdr]
    | (refine WCall.pf (hof) ?_ ?_ ?_ ?_;iterate 3 (solve|simp[Gt.H,Gt.cells,hlt,hWb,hof1,hbl,ii,hdr]))
    | (refine ⟨WCall.pf (hof) ?_ ?_ ?_ ?_,?_⟩;(focus (simp;done));(focus (simp[Gt.H,Gt.cells,hlt,hWb,hof1,hbl,ii,hdr];done));(focus (simp[Gt.H,Gt.cells,hlt,hWb,hof1,hbl,ii,hdr];done)))
    | (refine WCall.pf (hadd) ?_ ?_ ?_ ?_;iterate 3 (solve|simp[Gt.H,Gt.cells,hlt,hWb,hof1,hbl,ii,hdr]))
    | (refine ⟨WCall.pf (hadd) ?_ ?_ ?_ ?_,?_⟩;(focus (simp;done));(focus (simp[Gt.H,Gt.cells,hlt,hWb,hof1,hbl,ii,hdr];done));(focus (simp[Gt.H,Gt.cells,hlt,hWb,hof1,hbl,ii,hdr];done)))
    | with_reducible refine aI ?_ ?_ ?_)
   refine ⟨_,i + 1,(Gh.rowK 1 2 4 _ (by simp;rfl)).trans ?_,by omega,rfl,by omega,by rw[hAi];exact hwi2⟩
   rw[hl_nil]
   simp
   exact (Gh.ren [0,1,2,3] (by simp[hB0]) (by simp[hB0] <;> decide) (by simp[Gt.H,Gt.cells,hAi]) (by simp[Gt.H,Gt.cells,hAi]) (.inl (by simp[Gt.H,Gt.cells,hAi])))
  ·obtain rfl:i=Wk.length:=by omega
   dsimp only
   rw[hAl]
   clear hadv hwake hAs hwt hA0 hAl hAhl
   have hBhl:∀ i,i ≤ 12 → (g.tkB i).hl.length=12:=fun i hi => by
    show (midF _ (wokenH (wokenM g.L) g.hl) i).length=12
    rw[midF_len _ _ _ (by omega)];omega
   have hB12:=hBhl 0 (by omega)
   simp[Gt.H,Gt.cells]
   refine W.loopS (fun y:Nat => ⟨[(114,I y),(113,I 12),(112,.own 2),(3,.rows 1 (off.map fun z => [I z])),(0,.ptr 0 0)],(g.tkB y).H 3,4⟩)
    (fun m i => m=12 - i ∧ i ≤ 12) ?_ ?_
   ·exact ⟨_,0,(Gh.ren [0,1,2,3] (by simp[hB0]) (by simp[hB0] <;> decide) (by simp[Gt.H,Gt.cells,hB12]) (by simp[Gt.H,Gt.cells,hB12]) (.inl (by simp[Gt.H,Gt.cells,hB12]))),rfl,by omega⟩
   clear hB12
   rintro m i ⟨hm,hi⟩
   refine acode_sound [0,2,3,5,6,9,10,12,13,15,16,18,19,22,67,68,69,70,112,113,114,115,144,145,146,147,161,175,176,177,178,193,205,206,207,208] [] _ _ _ ?_
   dsimp only
   have hml:=hBhl i hi
   by_cases hlt:i < 12
   ·have hil:i < (wokenH (wokenM g.L) g.hl).length:=by omega
    have hmg:(g.tkB i).hl[i]? = some (wokenH (wokenM g.L) g.hl)[i]:=midF_get _ _ i hil
    have hqm:=List.getElem_mem hil
    have hBs:g.tkB (i + 1)={ g.tkB i with hl:=(g.tkB i).hl.set i (backH (wokenH (wokenM g.L) g.hl)[i] (g.tkB i).now).1 }:=by
     have e:(g.tkB i).hl.set i (backH (wokenH (wokenM g.L) g.hl)[i] (g.tkB i).now).1=(g.tkB (i + 1)).hl:=midF_set (fun h => (backH h (g.now + 1)).1) _ i hil
     rw[e];rfl
    obtain ⟨q,hq⟩:∃ q,q=(wokenH (wokenM g.L) g.hl)[i]:=⟨_,rfl⟩
    rw[← hq] at hmg hqm hBs
    have hmg2:∀ h,(g.tkB i).hl[i]'h=q:=fun h => by
     rw[zE h] at hmg;exact Option.some.inj hmg
    have hback:=hback_pf (g.tkB i).c.wat q (g.tkB i).now hwat (hHok q hqm) (show 0 ≤ g.now + 1 by omega) (show g.now + 1 ≤ _ by omega)
    simp only[Wtch.D] at hback
    generalize backH q (g.tkB i).now=r at hback hBs
    obtain ⟨r,rb⟩:=r
    simp only at hback hBs
    simp only[Hlth.D] at hback
    have ii:InR ((i:Int) + 1):=inW (by omega) (by omega)
    have hltI:(i:Int) < 12:=by omega
    repeat' (first
     | simp[Gt.H,Gt.cells,hlt,hltI,hml,hmg,hmg2,Hlth.D,ii]
     | (refine WCall.pf (hback) ?_ ?_ ?_ ?_;iterate 3 (solve|simp[Gt.H,Gt.cells,hlt,hltI,hml,hmg,hmg2,Hlth.D,ii]))
     | (refine ⟨WCall.pf (hback) ?_ ?_ ?_ ?_,?_⟩;(focus (simp;done));(focus (simp[Gt.H,Gt.cells,hlt,hltI,hml,hmg,hmg2,Hlth.D,ii];done));(focus (simp[Gt.H,Gt.cells,hlt,hltI,hml,hmg,hmg2,Hlth.D,ii];done)))
     | with_reducible refine aI ?_ ?_ ?_)
    exact ⟨_,i + 1,(Gh.ren [0,1,2,3] (by simp[hB0]) (by simp[hB0] <;> decide) (by simp[Gt.H,Gt.cells,hBs,Hlth.D]) (by simp[Gt.H,Gt.cells,hBs,Hlth.D]) (.inl (by simp[Gt.H,Gt.cells,hBs,Hlth.D]))),by omega,rfl,by omega⟩
   obtain rfl:i=12:=by omega
   rw[hBl]
   clear hBhl hBz hBl hHok hml hWl hi hlt hm
   have hmt:g.tick=(g.tick0.offs off).cuts (g.tick0.offs off).L:=by unfold Gt.tick;rw[hOff]
   simp[Gt.H,Gt.cells]
   refine W.loopS (fun y:Nat × Gt => ⟨[(146,I y.1),(145,I off.length),(144,.rows 1 (off.map fun z => [I z])),(0,.ptr 0 0)],y.2.H5,6⟩)
    (fun m y => m=off.length - y.1 ∧ y.1 ≤ off.length ∧ Mid y.2 (n + 1) (-1) ∧ y.2.offs (off.drop y.1)=g.tick0.offs off ∧ (∀ s ∈ off.drop y.1,∃ f ∈ y.2.fl,f.slot=s) ∧ y.2.out.length ≤ 2 * y.1) ?_ ?_
   ·exact ⟨_,(0,g.tick0),(Gh.ren [0,1,2,3,1,3] (by simp[hB0]) (by simp[hB0] <;> decide) (by simp[Gt.H5,Gt.cells]) (by simp[Gt.H5,Gt.cells]) (.inl (by simp[Gt.H5,Gt.cells]))),rfl,by simp,h0,rfl,fun s hs => hoffx s hs,by show g.out.length ≤ _;rw[ho];simp⟩
   rintro m ⟨i,G⟩ ⟨hm,hi,hM,hT,hX,hO⟩
   simp only at hm hi hM hT hX hO
   refine acode_sound [0,2,3,5,6,9,10,12,13,15,16,18,19,22,67,68,69,70,112,113,114,115,144,145,146,147,161,175,176,177,178,193,205,206,207,208] [] _ _ _ ?_
   dsimp only
   by_cases hlt:i < off.length
   ·have hdc:=List.drop_eq_getElem_cons hlt
    rw[hdc] at hT hX
    obtain ⟨f0,hf0,hfs⟩:=hX _ (List.mem_cons_self ..)
    have hnd:off[i] ∉ off.drop (i + 1):=by
     have h1:=hoffn.sublist (List.drop_sublist i off)
     rw[hdc] at h1
     exact (List.nodup_cons.1 h1).1
    obtain ⟨o1,o2,o3,o4⟩:=off1_same hM hf0
    have oo:=off1_out G f0.slot
    have hX2:∀ s ∈ off.drop (i + 1),∃ f ∈ (G.off1 f0.slot).fl,f.slot=s:=fun s hs => by
     obtain ⟨f,hf,e⟩:=hX s (List.mem_cons_of_mem _ hs)
     exact ⟨f,o4 f hf fun e2 => hnd (by rw[← hfs,← e2,e];exact hs),e⟩
    have hT2:(G.off1 f0.slot).offs (off.drop (i + 1))=g.tick0.offs off:=by rw[← hT,hfs];rfl
    have hfm:=find_mem hM.fs.so hf0
    obtain ⟨hjl,hje,hj0,hjd⟩:=hfm
    have hgf:=gfind_pf G f0.slot (by have:=fl_le hM.fs;have:=hM.tok.2.1;omega)
    obtain ⟨j,hj⟩:∃ j:Nat,findF G.fl f0.slot=j:=⟨(findF G.fl f0.slot).toNat,by omega⟩
    have hjt:(findF G.fl f0.slot).toNat=j:=by omega
    have hoe:G.off1 f0.slot=if f0.serving=true then G.drop j (resetO 1) else G.failed j 5:=by
     unfold Gt.off1;rw[hjt] at hjd;simp only[hjt,hjd]
    have hjl2:j < G.fl.length:=by omega
    have hje2:G.fl[j]=f0:=by subst hjt;exact hje
    rw[hj] at hgf
    rw[hfs] at hgf
    have hf:=hje2.symm
    have hdrop:=gdrop_mf G (n + 1) j (resetO 1) hM hjl2 (by omega)
    have hfail:=gfailed_mf G (n + 1) j 5 hM hjl2
    obtain ⟨z,hz⟩:∃ z,z=off[i]:=⟨_,rfl⟩
    rw[← hz] at hgf
    have ii:InR ((i:Int) + 1):=inW (by omega) (by omega)
    simp only[Gt.P,Gt.W,Gt.cells,List.cons_append,List.nil_append] at hgf
    cases hs:f0.serving with
    | true =>
     rw[hs,if_pos rfl] at hoe
     rw[← hoe] at hdrop
     generalize G.off1 f0.slot=G2 at *
     simp only[MF,Gt.H5,Gt.H,Gt.cells,resetO,Outp.D,List.cons_append,List.nil_append] at hdrop
     repeat' (first
      | simp[Gt.H5,Gt.cells,hlt,← hz,hjl2,← hf,Flw.D,hs]
      | (refine WCall.pf (hgf) ?_ ?_ ?_ ?_;iterate 3 (solve|simp[Gt.H5,Gt.cells,hlt,← hz,hjl2,← hf,Flw.D,hs]))
      | (refine ⟨WCall.pf (hgf) ?_ ?_ ?_ ?_,?_⟩;(focus (simp;done));(focus (simp[Gt.H5,Gt.cells,hlt,← hz,hjl2,← hf,Flw.D,hs];done));(focus (simp[Gt.H5,Gt.cells,hlt,← hz,hjl2,← hf,Flw.D,hs];done)))
      | with_reducible refine aI ?_ ?_ ?_)
     refine wH [0,4,2,5] (hdrop) ?_
     rintro d H' nx' ⟨rfl,rfl,rfl⟩
     simp[ii]
     exact ⟨_,(i + 1,G2),(Gh.ren [0,1,2,3,6,7] (by simp[hB0]) (by simp[hB0] <;> decide) (by simp[Gt.H5,Gt.cells]) (by simp[Gt.H5,Gt.cells]) (.inl (by simp[Gt.H5,Gt.cells]))),by omega,rfl,by omega,o1,hT2,hX2,by simp only;omega⟩
    | false =>
     rw[hs,if_neg (by simp)] at hoe
     have hfail:=hfail (by rw[hje2];exact hs) (by omega)
     rw[← hoe] at hfail
     generalize G.off1 f0.slot=G2 at *
     simp only[MF,Gt.H5,Gt.H,Gt.cells,List.cons_append,List.nil_append] at hfail
     repeat' (first
      | simp[Gt.H5,Gt.cells,hlt,← hz,hjl2,← hf,Flw.D,hs]
      | (refine WCall.pf (hgf) ?_ ?_ ?_ ?_;iterate 3 (solve|simp[Gt.H5,Gt.cells,hlt,← hz,hjl2,← hf,Flw.D,hs]))
      | (refine ⟨WCall.pf (hgf) ?_ ?_ ?_ ?_,?_⟩;(focus (simp;done));(focus (simp[Gt.H5,Gt.cells,hlt,← hz,hjl2,← hf,Flw.D,hs];done));(focus (simp[Gt.H5,Gt.cells,hlt,← hz,hjl2,← hf,Flw.D,hs];done)))
      | with_reducible refine aI ?_ ?_ ?_)
     refine wH [0,4,2,5] (hfail) ?_
     rintro d H' nx' ⟨rfl,rfl,rfl⟩
     simp[ii]
     exact ⟨_,(i + 1,G2),(Gh.ren [0,1,2,3,6,7] (by simp[hB0]) (by simp[hB0] <;> decide) (by simp[Gt.H5,Gt.cells]) (by simp[Gt.H5,Gt.cells]) (.inl (by simp[Gt.H5,Gt.cells]))),by omega,rfl,by omega,o1,hT2,hX2,by simp only;omega⟩
   have hie:i=off.length:=by omega
   rw[hie,List.drop_length] at hT
   have hT:G=g.tick0.offs off:=hT
   have hO2:G.out.length ≤ 80:=by omega
   rw[← hT] at hmt
   have hLl:=hM.bk.ll
   clear hT hX hO hi hm hoffx hoff hoffn
   obtain ⟨Ls,hLs⟩:∃ Ls,Ls=G.L:=⟨_,rfl⟩
   rw[← hLs] at hmt hLl
   subst hie
   simp[Gt.H5,Gt.cells,← hLs]
   refine W.loopS (fun y:Nat × Gt => ⟨[(177,I y.1),(176,I Ls.length),(175,.rows 6 (Ls.map Lif.D)),(0,.ptr 0 0)],y.2.H5,6⟩)
    (fun m y => m=Ls.length - y.1 ∧ y.1 ≤ Ls.length ∧ Mid y.2 (n + 1) (-1) ∧ y.2.cuts (Ls.drop y.1)=g.tick ∧ y.2.out.length ≤ 80 + 100 * y.1) ?_ ?_
   ·exact ⟨_,(0,G),(Gh.ren [0,1,2,3,4,5] (by simp[hB0]) (by simp[hB0] <;> decide) (by simp[Gt.H5,Gt.cells,← hLs]) (by simp[Gt.H5,Gt.cells,← hLs]) (.inl (by simp[Gt.H5,Gt.cells,← hLs]))),rfl,by simp,hM,hmt.symm,by simpa using hO2⟩
   clear hM hO2 hLs hmt
   rintro m ⟨i,G⟩ ⟨hm,hi,hM,hT,hO⟩
   simp only at hm hi hM hT hO
   refine acode_sound [0,2,3,5,6,9,10,12,13,15,16,18,19,22,67,68,69,70,112,113,114,115,144,145,146,147,161,175,176,177,178,193,205,206,207,208] [] _ _ _ ?_
   dsimp only
   by_cases hlt:i < Ls.length
   ·rw[List.drop_eq_getElem_cons hlt] at hT
    obtain ⟨x,hx⟩:∃ x,x=Ls[i]:=⟨_,rfl⟩
    rw[← hx] at hT
    unfold Gt.cuts at hT
    have ii:InR ((i:Int) + 1):=inW (by omega) (by omega)
    by_cases hc:x.state ≠ 3 ∨ G.now < x.til
    ·rw[if_pos hc] at hT
     by_cases s3:x.state=3
     ·have ht:G.now < x.til:=hc.resolve_left fun h => h s3
      simp[Gt.H5,Gt.cells,hlt,← hx,Lif.D,s3,ht,ii]
      exact ⟨_,(i + 1,G),(Gh.ren [0,1,2,3,4,5] (by simp[hB0]) (by simp[hB0] <;> decide) (by simp[Gt.H5,Gt.cells]) (by simp[Gt.H5,Gt.cells]) (.inl (by simp[Gt.H5,Gt.cells]))),by omega,rfl,by omega,hM,hT,by simp only;omega⟩
     ·simp[Gt.H5,Gt.cells,hlt,← hx,Lif.D,s3,ii]
      exact ⟨_,(i + 1,G),(Gh.ren [0,1,2,3,4,5] (by simp[hB0]) (by simp[hB0] <;> decide) (by simp[Gt.H5,Gt.cells]) (by simp[Gt.H5,Gt.cells]) (.inl (by simp[Gt.H5,Gt.cells]))),by omega,rfl,by omega,hM,hT,by simp only;omega⟩
    ·rw[if_neg hc] at hT
     have s3:x.state=3:=Decidable.byContradiction fun h => hc (.inl h)
     have ht:¬ G.now < x.til:=fun h => hc (.inr h)
     have hof:=tofb_pf G.tb x.backend hM.tok
     obtain ⟨hs,hhs⟩:∃ hs,hs=ofL G.tb x.backend:=⟨_,rfl⟩
     have hsl:hs.length ≤ 40:=by rw[hhs,ofL_len];exact Nat.le_trans (cntB_le _ _) hM.tok.2.1
     have hsn:(hs.map (·.1)).Nodup:=by rw[hhs];exact ofL_nodup _ _
     have hsx:∀ k ∈ hs,∃ f ∈ G.fl,f.slot=k.1:=fun k hk => by
      rw[hhs] at hk
      obtain ⟨q1,q2,q3,q4⟩:=ofL_mem.1 hk
      exact hM.fs.al k.1 q1 q2
     rw[← hhs] at hT hof
     clear hhs
     repeat' (first
      | simp[Gt.H5,Gt.cells,hlt,← hx,Lif.D,s3,ht]
      | (refine WCall.pf (hof) ?_ ?_ ?_ ?_;iterate 3 (solve|simp[Gt.H5,Gt.cells,hlt,← hx,Lif.D,s3,ht]))
      | (refine ⟨WCall.pf (hof) ?_ ?_ ?_ ?_,?_⟩;(focus (simp;done));(focus (simp[Gt.H5,Gt.cells,hlt,← hx,Lif.D,s3,ht];done));(focus (simp[Gt.H5,Gt.cells,hlt,← hx,Lif.D,s3,ht];done)))
      | with_reducible refine aI ?_ ?_ ?_)
     refine W.loopS (fun y:Nat × Gt => ⟨[(207,I y.1),(206,I hs.length),(205,.rows 2 (hs.map Hnd.D)),(177,I i),(176,I Ls.length),(175,.rows 6 (Ls.map Lif.D)),(0,.ptr 0 0)],y.2.H5,6⟩)
      (fun m y => m=hs.length - y.1 ∧ y.1 ≤ hs.length ∧ Mid y.2 (n + 1) (-1) ∧ y.2.cut1 (hs.drop y.1)=G.cut1 hs ∧ (∀ k ∈ hs.drop y.1,∃ f ∈ y.2.fl,f.slot=k.1) ∧ y.2.out.length ≤ 80 + 100 * i + 2 * y.1) ?_ ?_
     ·exact ⟨_,(0,G),(Gh.ren [0,1,2,3,4,5] (by simp[hB0]) (by simp[hB0] <;> decide) (by simp[Gt.H5,Gt.cells]) (by simp[Gt.H5,Gt.cells]) (.inl (by simp[Gt.H5,Gt.cells]))),rfl,by simp,hM,rfl,fun k hk => hsx k hk,by simpa using hO⟩
     clear hsx hM hof
     rintro m2 ⟨k,G2⟩ ⟨hm2,hk,hM2,hT2,hX2,hO2⟩
     simp only at hm2 hk hM2 hT2 hX2 hO2
     refine acode_sound [0,2,3,5,6,9,10,12,13,15,16,18,19,22,67,68,69,70,112,113,114,115,144,145,146,147,161,175,176,177,178,193,205,206,207,208] [] _ _ _ ?_
     dsimp only
     by_cases hlt2:k < hs.length
     ·have hdc:=List.drop_eq_getElem_cons hlt2
      rw[hdc] at hT2 hX2
      obtain ⟨f0,hf0,hfs⟩:=hX2 _ (List.mem_cons_self ..)
      have hnd:hs[k].1 ∉ (hs.drop (k + 1)).map (·.1):=by
       have h1:=hsn.sublist ((List.drop_sublist k hs).map (·.1))
       rw[hdc,List.map_cons] at h1
       exact (List.nodup_cons.1 h1).1
      obtain ⟨hjl,hje,hj0,hjd⟩:=find_mem hM2.fs.so hf0
      have hgf:=gfind_pf G2 f0.slot (by have:=fl_le hM2.fs;have:=hM2.tok.2.1;omega)
      obtain ⟨j,hj⟩:∃ j:Nat,findF G2.fl f0.slot=j:=⟨(findF G2.fl f0.slot).toNat,by omega⟩
      have hjt:(findF G2.fl f0.slot).toNat=j:=by omega
      have hjl2:j < G2.fl.length:=by omega
      have hje2:G2.fl[j]=f0:=by subst hjt;exact hje
      have hgd:=getD_at (default:Flw) hjl2
      rw[hje2] at hgd
      have hM3:=hM2.drop hjl2 (resetO 2)
      obtain ⟨_,h2⟩:=drop_same hM2 hjl2 (resetO 2)
      rw[hgd] at h2
      have hX3:∀ q ∈ hs.drop (k + 1),∃ f ∈ (G2.drop j (resetO 2)).fl,f.slot=q.1:=fun q hq => by
       obtain ⟨f,hf,e⟩:=hX2 q (List.mem_cons_of_mem _ hq)
       refine ⟨f,(h2 f).2 ⟨hf,fun e2 => hnd (List.mem_map.2 ⟨q,hq,by omega⟩)⟩,e⟩
      have hT3:(G2.drop j (resetO 2)).cut1 (hs.drop (k + 1))=G.cut1 hs:=by rw[← hT2];simp only[Gt.cut1,← hfs,hjt]
      have oo:=drop_out G2 j (resetO 2)
      have hdrop:=gdrop_mf G2 (n + 1) j (resetO 2) hM2 hjl2 (by omega)
      rw[hj,hfs] at hgf
      obtain ⟨q,hq⟩:∃ q,q=hs[k]:=⟨_,rfl⟩
      rw[← hq] at hgf
      have ik:InR ((k:Int) + 1):=inW (by omega) (by omega)
      simp only[Gt.P,Gt.W,Gt.cells,List.cons_append,List.nil_append] at hgf
      generalize G2.drop j (resetO 2)=G3 at *
      simp only[MF,Gt.H5,Gt.H,Gt.cells,resetO,Outp.D,List.cons_append,List.nil_append] at hdrop
      repeat' (first
       | simp[Gt.H5,Gt.cells,hlt2,← hq,Hnd.D]
       | (refine WCall.pf (hgf) ?_ ?_ ?_ ?_;iterate 3 (solve|simp[Gt.H5,Gt.cells,hlt2,← hq,Hnd.D]))
       | (refine ⟨WCall.pf (hgf) ?_ ?_ ?_ ?_,?_⟩;(focus (simp;done));(focus (simp[Gt.H5,Gt.cells,hlt2,← hq,Hnd.D];done));(focus (simp[Gt.H5,Gt.cells,hlt2,← hq,Hnd.D];done)))
       | with_reducible refine aI ?_ ?_ ?_)
      refine wH [0,4,2,5] (hdrop) ?_
      rintro d H' nx' ⟨rfl,rfl,rfl⟩
      simp[ik]
      exact ⟨_,(k + 1,G3),(Gh.ren [0,1,2,3,7,8] (by simp[hB0]) (by simp[hB0] <;> decide) (by simp[Gt.H5,Gt.cells]) (by simp[Gt.H5,Gt.cells]) (.inl (by simp[Gt.H5,Gt.cells]))),by omega,rfl,by omega,hM3,hT3,fun a b hab => hX3 (a,b) hab,by simp only;omega⟩
     ·have hke:k=hs.length:=by omega
      rw[hke,List.drop_length] at hT2
      have hT2:G2=G.cut1 hs:=hT2
      rw[← hT2] at hT
      subst hke
      simp[Gt.H5,Gt.cells,ii]
      exact ⟨_,(i + 1,G2),(Gh.ren [0,1,2,3,4,5] (by simp[hB0]) (by simp[hB0] <;> decide) (by simp[Gt.H5,Gt.cells]) (by simp[Gt.H5,Gt.cells]) (.inl (by simp[Gt.H5,Gt.cells]))),by omega,rfl,by omega,hM2,hT,by simp only;omega⟩
   ·have hie:i=Ls.length:=by omega
    rw[hie,List.drop_length] at hT
    have hT:G=g.tick:=hT
    rw[← hT]
    subst hie
    simp[Gt.H5,Gt.cells]
    exact ⟨5,by simp,4,by simp⟩
theorem Gh.cellK {B:Base} {st:St} (k id:Nat) (ds:List D) (hh:hget st.heap id=some (.cells ds)):Gh B st ⟨st.env,eput st.heap id (.cells (ds.map (nilK k))),st.nx⟩:=by
 intro s Z a w hr
 have hob:=hr.h.ob _ _ hh
 have hlt:=hr.h.lt _ _ hh
 refine ⟨s,Z,hr.env,hr.elt,hr.size,hr.defers,?_⟩
 have hnew:ObOk s Z w (.cells (ds.map (nilK k))) (s id):=by
  obtain ⟨b,T,cs,h1,h2,h3,h4⟩:=hob
  refine ⟨b,T,cs,h1,h2,by rw[List.length_map];exact h3,fun j x hx => ?_⟩
  rw[List.getElem?_map] at hx
  cases hd:ds[j]? with
  | none => rw[hd] at hx;cases hx
  | some d =>
   rw[hd] at hx
   obtain rfl:=Option.some.inj hx
   have h5:=h4 j d hd
   cases d with
   | nil0 =>
    have h6:VT Z .nil0 (cs.getD j undef):=h5
    generalize cs.getD j undef=u at h6 ⊢
    cases h6
    exact VT.rnil _ _ _
   | _ => exact h5
 have hnlt:LtO st.nx (.cells (ds.map (nilK k))):=by
  intro d hd
  obtain ⟨d0,h1,rfl⟩:=List.mem_map.1 hd
  have:=hlt.2 d0 h1
  cases d0 with
  | nil0 => trivial
  | _ => exact this
 have hhe:∀ i ob,hget (eput st.heap id (.cells (ds.map (nilK k)))) i=some ob → ∃ ob0,hget st.heap i=some ob0:=fun i ob h => by
  rw[hget_eput] at h
  split at h
  ·rename_i e;subst e;exact ⟨_,hh⟩
  ·exact ⟨_,h⟩
 refine ⟨fun i ob h => ?_,fun i ob h => ?_,fun i i' ob ob' b h h' hne hb => ?_,hr.h.zok,fun i ob b o h hb => ?_,fun i ob b h hb => ?_,hr.h.fr,hr.h.n0,hr.h.bs,hr.h.bz,hr.h.bn⟩
 ·have h9:hget (eput st.heap id (.cells (ds.map (nilK k)))) i=some ob:=h
  rw[hget_eput] at h9
  by_cases e:i=id
  ·rw[if_pos e] at h9;rw[e,← Option.some.inj h9];exact hnew
  ·rw[if_neg e] at h9;exact hr.h.ob i ob h9
 ·have h9:hget (eput st.heap id (.cells (ds.map (nilK k)))) i=some ob:=h
  rw[hget_eput] at h9
  by_cases e:i=id
  ·rw[if_pos e] at h9;rw[e,← Option.some.inj h9];exact ⟨hlt.1,hnlt⟩
  ·rw[if_neg e] at h9;exact hr.h.lt i ob h9
 ·obtain ⟨o1,h1⟩:=hhe i ob h
  obtain ⟨o2,h2⟩:=hhe i' ob' h'
  exact hr.h.apart i i' o1 o2 b h1 h2 hne hb
 ·obtain ⟨o1,h1⟩:=hhe i ob h
  exact hr.h.zap i o1 b o h1 hb
 ·obtain ⟨o1,h1⟩:=hhe i ob h
  exact hr.h.mine i o1 b h1 hb
theorem glives_code:cfun Tryz.prog [] 70=some ⟨(.seq (qR 0 [oX 2 (.mov (.k qF))]) (.seq (qR 1 [oX 8 (.build [.nil0] []),oX 3 (.alloc [.nil0]),oS 1 3 8]) (.seq (qR 2 [oM 10 0,oN 11 10,oF 12 0 11,oF 13 17 12,oA 14 1 13,oX 15 (.call 39 [(.t 14)]),oM 9 15,oE 16 9 0,oE 17 9 1,oM 4 16,oM 5 17]) (.seq (.seq (qR 3 [oM 18 0,oN 19 18,oF 20 0 19,oF 21 19 20,oF 22 0 21,oL 23 1 22,oH 24 23,oK 25 0]) (.block 0 (.loop (.seq (qR 4 [oX 26 (.bin .lss (.t 25) (.t 24))]) (.seq (.cond 26 .skip (.exit 0)) (.seq (.block 1 (.seq (qR 5 [oI 27 6 23 25,oA 28 6 27,oX 7 (.alloc [qZ,qZ,qZ,qZ,qZ,qZ]),oS 6 7 28]) (.seq (.seq (.draw 6 (qN (oF 29 3 7) (qN (oL 30 1 29) (qN (oM 31 0) (qN (oN 32 31) (qN (oF 33 0 32) (qN (oF 34 16 33) (qN (oL 35 1 34) (qN (oX 36 (.bin .gtr (.t 30) (.t 35))) .done))))))))) (.cond 36 (.seq (qR 7 [oX 2 (.mov (.k qF))]) .ret) .skip)) (.seq (qR 8 [oF 37 1 7,oL 38 1 37]) (.block 2 (.seq (qR 9 [oX 40 (.bin .eql (.t 38) (kI 2)),oM 39 40]) (.cond 39 (qR 10 [oA 42 1 3,oF 43 0 7,oL 44 1 43,oF 45 2 7,oL 46 1 45,oX 47 (.call 94 [(.t 42),(.t 44),(.t 46)]),oM 41 47,oE 48 41 0,oE 49 41 1,oS 1 3 48]) (.seq (qR 11 [oX 51 (.bin .eql (.t 38) (kI 3)),oM 50 51]) (.cond 50 (.seq (.draw 12 (qN (oF 52 4 7) (qN (oL 53 1 52) (qN (oM 54 0) (qN (oN 55 54) (qN (oF 56 0 55) (qN (oF 57 16 56) (qN (oL 58 1 57) (qN (oX 59 (.bin .leq (.t 53) (.t 58))) (qN (oM 60 59) (qN (oG 61 (.mov (.t 4)) 60 false) (qN (oG 62 (.fad 0 (.t 7)) 60 false) (qN (oG 63 (.load false 1 (.t 62)) 60 false) (qN (oG 64 (.iads 1 (.t 61) (.t 63)) 60 false) (qN (oG 65 (.load false 1 (.t 64)) 60 false) (qN (oG 66 (.bin .eql (.t 65) (kI 0)) 60 false) (qN (oX 67 (.pick (.t 60) (.k qT) (.t 66))) .done))))))))))))))))) (.cond 67 (.seq (qR 13 [oX 2 (.mov (.k qF))]) .ret) .skip)) .skip))))))))) (qR 14 [oX 68 (.bin .add (.t 25) (kI 1)),oM 25 68]))))))) (.seq (.draw 15 (qN (oF 69 0 3) (qN (oL 70 1 69) (qN (oM 71 0) (qN (oN 72 71) (qN (oF 73 0 72) (qN (oF 74 21 73) (qN (oF 75 0 74) (qN (oL 76 1 75) (qN (oX 77 (.call 113 [(.t 70),(.t 76)])) (qN (oM 2 77) .done))))))))))) .ret))))),[(.t 2)],78⟩:=by kernel_rfl
theorem glives_pf (g:Gt) (n:Nat) (h:Rest g n):PF Tryz.prog 70 [.pc g.P] (.bool true):=by
 have hm:=h.mid
 have hll:=hm.bk.ll
 have hcn:=tcounts_pf g.tb hm.tok
 have hcl:(countsL g.tb).length=12:=by simp[countsL]
 have heq:=speq_pf (ringM g.ws) (by
  have:=ringM_len g.ws (by rw[hm.ws];exact wsOf_ok hm.bk.lok)
  omega)
 have hspe:(fun s:Int × Int => [I s.1,I s.2])=spE:=rfl
 rw[hspe] at heq
 have hws:=hm.ws
 obtain ⟨P,hP⟩:∃ P,P=g.P:=⟨_,rfl⟩
 rw[← hP]
 have hP':=hP
 simp only[Gt.P,Gt.W,Gt.cells,List.cons_append,List.nil_append] at hP'
 have hr0:ringM (wsOf [])=[]:=by rw[wsOf_nil];exact ring0
 refine pO glives_code [0,2,3,4,7,23,24,25,26,36,38,39,50,67] [] fun B hBN hB0 => ?_
 repeat' (first
  | simp[hP']
  | refine ⟨wcS ?_,?_⟩
  | (refine WCall.pf (hcn) ?_ ?_ ?_ ?_;iterate 3 (solve|simp[hP']))
  | with_reducible refine aI ?_ ?_ ?_)
 rw[← hP']
 refine W.loopS (fun y:Nat => ⟨[(25,I y),(24,I g.L.length),(23,.rows 6 (g.L.map Lif.D)),(4,.rows 1 ((countsL g.tb).map GI)),(3,.ptr 0 0),(0,.pc P)],[(0,.cells [.rows 2 ((ringM (wsOf (g.L.take y))).map spE)])],1⟩)
  (fun m i => m=g.L.length - i ∧ i ≤ g.L.length) ?_ ?_
 ·refine ⟨_,0,(Gh.cellK 2 0 _ (by simp;rfl)).trans ?_,rfl,by omega⟩
  simp[nilK]
  exact (gr0 [0] hB0 (by simp[hr0]) (by simp[hr0]) (.inl (by simp[hr0])))
 rintro m i ⟨hmm,hi⟩
 refine acode_sound [0,2,3,4,7,23,24,25,26,36,38,39,50,67] [] _ _ _ ?_
 by_cases hlt:i < g.L.length
 ·have hxm:=List.getElem_mem hlt
  have hlo:=hm.bk.lok _ hxm
  have hsi:=hm.since _ hxm
  have hdr:=h.dr _ hxm
  have hdr2:=hm.dr _ hxm
  have htk:=wsOf_take hm.bk.sorted hm.bk.lok i hlt
  have hwok:WOk (wsOf (g.L.take i)):=wsOf_ok fun x hx => hm.bk.lok x (List.mem_of_mem_take hx)
  obtain ⟨x,hx⟩:∃ x,x=g.L[i]:=⟨_,rfl⟩
  rw[← hx] at hlo hsi hdr hdr2 htk
  obtain ⟨b,hb⟩:∃ b:Nat,x.backend=b:=⟨x.backend.toNat,by have:=hlo.b0;omega⟩
  obtain ⟨w,hw⟩:∃ w:Nat,x.weight=w:=⟨x.weight.toNat,by have:=hlo.w0;omega⟩
  have hb12:b < 12:=by have:=hlo.b1;omega
  have hbc:b < (countsL g.tb).length:=by omega
  have hcg:=countsL_get g.tb b hb12
  have hns:¬ g.now < x.since:=by omega
  have ii:InR ((i:Int) + 1):=inW (by omega) (by omega)
  by_cases s2:x.state=2
  ·obtain ⟨h1,h2⟩:=htk
   rw[if_pos s2] at h1
   have hbt:x.backend.toNat=b:=by omega
   have hwt:x.weight.toNat=w:=by omega
   rw[hbt] at h1 h2
   rw[hwt] at h1
   have hadd:=radd_pf (wsOf (g.L.take i)) hwok b w hb12 (by have:=hlo.w0;have:=hlo.w1;omega) h2
   rw[← h1] at hadd
   repeat' (first
    | simp[hP',hlt,← hx,Lif.D,hns,s2,hb,hw,ii]
    | refine ⟨wcS ?_,?_⟩
    | (refine WCall.pf (hadd) ?_ ?_ ?_ ?_;iterate 3 (solve|simp[hP',hlt,← hx,Lif.D,hns,s2,hb,hw,ii]))
    | with_reducible refine aI ?_ ?_ ?_)
   exact ⟨_,i + 1,(gr0 [0] hB0 (by simp[hP']) (by simp[hP']) (.inl (by simp[hP']))),by omega,rfl,by omega⟩
  ·have h1:=htk.1
   rw[if_neg s2] at h1
   by_cases s3:x.state=3
   ·have ht:=hdr s3
    have hc:=(hdr2 s3).2.2 (by have:=hlo.b0;omega)
    rw[hb] at hc
    have hc0:¬ (cntB g.tb (b:Int))=0:=by omega
    have hnt:¬ x.til ≤ g.now:=by omega
    simp[hP',hlt,← hx,Lif.D,hns,s3,hnt,hb,hbc,hcg,GI,hc0,ii]
    exact ⟨_,i + 1,(gr0 [0] hB0 (by simp[hP',h1]) (by simp[hP',h1]) (.inl (by simp[hP',h1]))),by omega,rfl,by omega⟩
   ·simp[hP',hlt,← hx,Lif.D,hns,s2,s3,ii]
    exact ⟨_,i + 1,(gr0 [0] hB0 (by simp[hP',h1]) (by simp[hP',h1]) (.inl (by simp[hP',h1]))),by omega,rfl,by omega⟩
 ·obtain rfl:i=g.L.length:=by omega
  rw[List.take_length,← hws]
  repeat' (first
   | simp[hP']
   | refine ⟨wcS ?_,?_⟩
   | (refine WCall.pf (heq) ?_ ?_ ?_ ?_;iterate 3 (solve|simp[hP']))
   | with_reducible refine aI ?_ ?_ ?_)
  done
theorem gmay_code:cfun Tryz.prog [] 50=some ⟨(.seq (qR 0 [oB 1 0,oX 2 (.mov (.k qF))]) (.seq (.seq (qR 1 [oF 13 0 1,oA 14 16 13,oX 15 (.call 44 [(.t 14)]),oX 16 (.bin .neq (.t 15) (kI 0)),oM 17 16,oG 18 (.fad 16 (.t 1)) 17 false,oG 19 (.load false 1 (.t 18)) 17 false,oG 20 (.call 60 [(.t 19),(kI 0),(kI 1099511626776)]) 17 false,oG 21 (.not (.t 20)) 17 false,oX 22 (.pick (.t 17) (.k qT) (.t 21)),oM 23 22,oG 24 (.fad 17 (.t 1)) 23 false,oG 25 (.load true 1 (.t 24)) 23 false,oG 26 (.call 57 [(.t 25)]) 23 false,oG 27 (.bin .neq (.t 26) (kI 0)) 23 false,oX 28 (.pick (.t 23) (.k qT) (.t 27)),oM 29 28,oG 30 (.fad 17 (.t 1)) 29 false,oG 31 (.fad 0 (.t 30)) 29 false,oG 32 (.load false 1 (.t 31)) 29 false,oG 33 (.len (.t 32)) 29 false,oG 34 (.fad 0 (.t 1)) 29 false,oG 35 (.fad 0 (.t 34)) 29 false,oG 36 (.load false 1 (.t 35)) 29 false,oG 37 (.bin .neq (.t 33) (.t 36)) 29 false,oX 38 (.pick (.t 29) (.k qT) (.t 37)),oM 39 38,oG 40 (.fad 19 (.t 1)) 39 false,oG 41 (.load true 2 (.t 40)) 39 false,oG 42 (.call 65 [(.t 41)]) 39 false,oG 43 (.bin .neq (.t 42) (kI 0)) 39 false,oX 44 (.pick (.t 39) (.k qT) (.t 43)),oM 45 44,oG 46 (.fad 22 (.t 1)) 45 false,oG 47 (.load false 1 (.t 46)) 45 false,oG 48 (.len (.t 47)) 45 false,oG 49 (.bin .neq (.t 48) (kI 12)) 45 false,oX 50 (.pick (.t 45) (.k qT) (.t 49))]) (.cond 50 (.seq (qR 2 [oX 2 (.mov (.k qF))]) .ret) .skip)) (.seq (.seq (qR 3 [oF 52 0 1,oF 53 10 52,oA 54 3 53,oF 55 23 1,oA 56 1 55,oX 57 (.call 66 [(.t 54),(.t 56)]),oM 51 57,oE 58 51 0,oE 59 51 1,oX 3 (.alloc [qZ]),oS 1 3 58,oM 4 59]) (.seq (qR 4 [oM 60 4,oX 61 (.bin .neq (.t 60) (kI 0)),oM 62 61,oG 63 (.fad 24 (.t 1)) 62 false,oG 64 (.fad 0 (.t 63)) 62 false,oG 65 (.load false 1 (.t 64)) 62 false,oG 66 (.fad 16 (.t 1)) 62 false,oG 67 (.load false 1 (.t 66)) 62 false,oG 68 (.bin .neq (.t 65) (.t 67)) 62 false,oX 69 (.pick (.t 62) (.k qT) (.t 68))]) (.cond 69 (.seq (qR 5 [oX 2 (.mov (.k qF))]) .ret) .skip))) (.seq (.seq (qR 6 [oF 71 24 1,oA 72 2 71,oX 73 (.call 67 [(.t 72),(kI (-1))]),oM 70 73,oE 74 70 0,oE 75 70 1,oX 5 (.alloc [qZ,.nil0]),oS 2 5 74,oM 6 75]) (.seq (qR 7 [oM 76 6,oX 77 (.bin .neq (.t 76) (kI 8))]) (.cond 77 (.seq (qR 8 [oX 2 (.mov (.k qF))]) .ret) .skip))) (.seq (.seq (qR 9 [oF 78 22 1,oL 79 1 78,oH 80 79,oK 81 0]) (.block 0 (.loop (.seq (qR 10 [oX 82 (.bin .lss (.t 81) (.t 80))]) (.seq (.cond 82 .skip (.exit 0)) (.seq (.block 1 (.seq (qR 11 [oI 83 4 79 81,oA 84 4 83,oX 8 (.alloc [.nil0,qF,qZ,qZ]),oS 4 8 84]) (.seq (qR 12 [oF 86 0 1,oF 87 13 86,oA 88 3 87,oA 89 4 8,oF 90 16 1,oL 91 1 90,oX 92 (.call 68 [(.t 88),(.t 89),(.t 91)]),oM 85 92,oE 93 85 0,oE 94 85 1,oE 95 85 2,oX 9 (.alloc [.nil0,qF,qZ,qZ]),oS 4 9 93,oM 10 94,oM 11 95]) (.seq (qR 13 [oM 96 11,oX 97 (.bin .neq (.t 96) (kI 0)),oM 98 97,oG 99 (.fad 1 (.t 8)) 98 false,oG 100 (.load false 1 (.t 99)) 98 false,oG 101 (.mov (.t 100)) 98 false,oG 102 (.fad 2 (.t 8)) 101 true,oG 103 (.load false 1 (.t 102)) 101 true,oG 104 (.fad 16 (.t 1)) 101 true,oG 105 (.load false 1 (.t 104)) 101 true,oG 106 (.bin .leq (.t 103) (.t 105)) 101 true,oG 107 (.pick (.t 101) (.t 106) (.k qF)) 98 false,oX 108 (.pick (.t 98) (.k qT) (.t 107))]) (.cond 108 (.seq (qR 14 [oX 2 (.mov (.k qF))]) .ret) .skip))))) (qR 15 [oX 109 (.bin .add (.t 81) (kI 1)),oM 81 109]))))))) (.seq (qR 16 [oA 110 26 1,oX 111 (.build [qZ,qZ,qZ,qZ,qZ,qZ,qZ,qZ,qZ,qZ,qZ,qZ,qZ,qZ,qZ,qZ,qZ,.nil0,.nil0,.nil0,.nil0,.nil0,.nil0,qZ,qZ,.nil0,.nil0] [(0,(26,(.t 110)))]),oB 112 111,oM 12 112]) (.seq (qR 17 [oM 113 12,oX 114 (.call 69 [(.t 113)]),oM 115 114,oG 116 (.mov (.t 12)) 115 true,oG 117 (.call 70 [(.t 116)]) 115 true,oX 118 (.pick (.t 115) (.t 117) (.k qF)),oM 2 118]) .ret))))))),[(.t 2)],119⟩:=by kernel_rfl
theorem gmay_pf (g:Gt) (n:Nat) (h:Rest g n):PF Tryz.prog 50 [.agg g.W] (.bool true):=by
 have hm:=h.mid
 have hfl:=gfls_pf { g with out:=[] } n ⟨{ hm with },h.late,h.dr⟩
 have hli:=glives_pf { g with out:=[] } n ⟨{ hm with },h.late,h.dr⟩
 have hn0:=hm.n0
 have hn1:=hm.n1
 have hnn:=hm.nn
 have hck:=ccheck_pf g.c hm.c
 have hwi:=cwithin_pf g.now 0 1099511626776
 rw[withinB_t ⟨hn0,by omega⟩] at hwi
 have htc:=tcheck_pf g.tb hm.tok
 have hlc:=lchk_pf g.L g.R hm.bk
 have hea:=bearn_pf g.c.bud g.tok hm.c.b hm.tk0 hm.tk1
 have hca:=wcan0M g.now g.tm hm.wh (-1) (fun x hx e => by
  obtain ⟨f,hf,_,hxe⟩:=(hm.tt x).1 hx
  have:=(hm.flow hf).1
  rw[hxe] at e
  simp only at e
  omega)
 have htl:=hm.tl
 have hhn:=hm.hn
 have hwn:=hm.wn
 unfold bookD at hlc
 simp only[whM_def] at hca
 simp only[Budget.D] at hea
 simp only[Cfg.D] at hck
 simp only[Gt.P,Gt.W,Gt.cells,List.cons_append,List.nil_append,List.map_nil] at hfl hli
 refine pO (h3:=by simp[Gt.W,Gt.cells]) gmay_code [0,1,2,4,6,8,11,12,50,69,77,79,80,81,82,108] [17] fun B hBN hB0 => ?_
 repeat' (first
  | simp[Gt.W,Gt.cells,htl,hhn,hwn]
  | refine ⟨wcS ?_,?_⟩
  | (refine WCall.pf (hck) ?_ ?_ ?_ ?_;iterate 3 (solve|simp[Gt.W,Gt.cells,htl,hhn,hwn]))
  | (refine WCall.pf (hwi) ?_ ?_ ?_ ?_;iterate 3 (solve|simp[Gt.W,Gt.cells,htl,hhn,hwn]))
  | (refine WCall.pf (htc) ?_ ?_ ?_ ?_;iterate 3 (solve|simp[Gt.W,Gt.cells,htl,hhn,hwn]))
  | (refine WCall.pf (hlc) ?_ ?_ ?_ ?_;iterate 3 (solve|simp[Gt.W,Gt.cells,htl,hhn,hwn]))
  | (refine WCall.pf (hea) ?_ ?_ ?_ ?_;iterate 3 (solve|simp[Gt.W,Gt.cells,htl,hhn,hwn]))
  | (refine WCall.pf (hca) ?_ ?_ ?_ ?_;iterate 3 (solve|simp[Gt.W,Gt.cells,htl,hhn,hwn]))
  | with_reducible refine aI ?_ ?_ ?_)
 refine W.loopS (fun y:Nat => ⟨[(81,I y),(80,I 12),(79,.rows 4 (g.hl.map Hlth.D)),(1,.ptr 0 0)],[(0,.cells g.W)],1⟩)
  (fun m i => m=12 - i ∧ i ≤ 12) ?_ ?_
 ·exact ⟨_,0,(gr0 [0] hB0 (by simp[Gt.W,Gt.cells,hwn]) (by simp[Gt.W,Gt.cells,hwn]) (.inl (by simp[Gt.W,Gt.cells,hwn]))),rfl,by omega⟩
 rintro m i ⟨hmm,hi⟩
 refine acode_sound [0,1,2,4,6,8,11,12,50,69,77,79,80,81,82,108] [17] _ _ _ ?_
 by_cases hlt:i < 12
 ·have hil:i < g.hl.length:=by omega
  have hok:=hm.hok _ (List.getElem_mem hil)
  have hba:=hback_pf g.c.wat g.hl[i] g.now hm.c.w hok.1 hn0 (by omega)
  obtain ⟨q,hq⟩:∃ q,q=g.hl[i]:=⟨_,rfl⟩
  rw[← hq] at hok hba
  have hltI:(i:Int) < 12:=by omega
  have ii:InR ((i:Int) + 1):=inW (by omega) (by omega)
  generalize backH q g.now=r at hba
  obtain ⟨r,rb⟩:=r
  simp only at hba
  simp only[Hlth.D,Wtch.D] at hba
  cases hqo:q.out with
  | true =>
   have hqt:¬ q.til ≤ g.now:=by have:=(hok.2 hqo).1;omega
   rw[hqo] at hba
   repeat' (first
    | simp[Gt.W,Gt.cells,hltI,hil,← hq,Hlth.D,hqo,hqt,ii]
    | refine ⟨wcS ?_,?_⟩
    | (refine WCall.pf (hba) ?_ ?_ ?_ ?_;iterate 3 (solve|simp[Gt.W,Gt.cells,hltI,hil,← hq,Hlth.D,hqo,hqt,ii]))
    | with_reducible refine aI ?_ ?_ ?_)
   exact ⟨_,i + 1,(gr0 [0] hB0 (by simp[Gt.W,Gt.cells]) (by simp[Gt.W,Gt.cells]) (.inl (by simp[Gt.W,Gt.cells]))),by omega,rfl,by omega⟩
  | false =>
   rw[hqo] at hba
   repeat' (first
    | simp[Gt.W,Gt.cells,hltI,hil,← hq,Hlth.D,hqo,ii]
    | refine ⟨wcS ?_,?_⟩
    | (refine WCall.pf (hba) ?_ ?_ ?_ ?_;iterate 3 (solve|simp[Gt.W,Gt.cells,hltI,hil,← hq,Hlth.D,hqo,ii]))
    | with_reducible refine aI ?_ ?_ ?_)
   exact ⟨_,i + 1,(gr0 [0] hB0 (by simp[Gt.W,Gt.cells]) (by simp[Gt.W,Gt.cells]) (.inl (by simp[Gt.W,Gt.cells]))),by omega,rfl,by omega⟩
 ·obtain rfl:i=12:=by omega
  simp[Gt.W,Gt.cells]
  refine W.gh (Gh.cellK 7 1 _ (by simp;rfl)) ?_
  simp[nilK]
  refine acode_sound [0,1,2,4,6,8,11,12,50,69,77,79,80,81,82,108] [] _ _ _ ?_
  repeat' (first
   | simp
   | refine ⟨wcS ?_,?_⟩
   | (refine WCall.pf (hfl) ?_ ?_ ?_ ?_;iterate 3 (solve|simp))
   | (refine WCall.pf (hli) ?_ ?_ ?_ ?_;iterate 3 (solve|simp))
   | with_reducible refine aI ?_ ?_ ?_)
  all_goals done
end Go.Proofs.YtibemmkfcjlmpaaGreat
