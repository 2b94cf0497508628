/- Edges: Of; two graphs that are the same; Edges: cut to what this seat wants; Graphs that grow: the plain law (no program in sight); A region that draws its order: some stable operations are taken first; of the rest every order is walked, stable ones taken as they come up. Nothing here names the program; A region that draws its order: every order is walked, stable operations taken as they come up; behind the late ones (for which all that is taken waits not) nothing stable need hold. Nothing here names the program; Graphs: a graph that grows, in memory; Graphs: a node that comes. -/
import Derived.Test.YtddffnonlmfhdaaGreatDoorW04
import Derived.Test.YtddffnonlmfhdaaGreatDoorW01
set_option linter.unusedVariables false
set_option linter.unusedSimpArgs false
set_option maxHeartbeats 16000000
set_option maxRecDepth 100000
namespace Go.Proofs.YtddffnonlmfhdaaGreatDoor
open Go.RowKit
def OfP (w:World) (N:List Txt) (E:List Ed) (e:Ending) (w':World):Prop:=
 (namedB N E = false∧e = .returned (.tuple #[twoV none 0 0 none 0 0,.int .i64 173])∧Below w.heap.size w w') ∨ (namedB N E = true∧MadeP w N E e w')

theorem eof_any (w:World) (A:Option Addr) (c:Nat) (B:Option Addr) (d:Nat) (N:List Txt) (E:List Ed) (h:ForG w A c B d N E) (hb:(N.length + E.length * 2) * 16 ≤ 140737488355328) :
  Calls Tryz.prog 108 #[.slice A N.length c,.slice B E.length d] w (OfP w N E):=by
 have k0:=Blk.new w 34 #[.slice none 0 0,.slice none 0 0]
 have u0:Below w.heap.size w (w.alloc (.cells #[.slice none 0 0,.slice none 0 0] 34)):=(Below.refl _ _).alloc (Nat.le_refl _) _
 have H:=Lib.hid (And.intro (h.below u0) (And.intro k0 u0))
 clear h k0 u0
 obtain ⟨b0,hb0⟩:∃ b,namedB N E = b:=⟨_,rfl⟩
 have HN:=Lib.hid hb0
 clear hb0
 go_enter Tryz.func108,Tryz.ntmps108
 go_upto_region 1 with (fail)
 generalize w.alloc (.cells #[.slice none 0 0,.slice none 0 0] 34) = W0 at H ⊢
 have hz0:w.heap.size + 1 ≤ W0.heap.size:=H.out.2.1.lt
 go_wp2_with fail
 refine (named_any W0 A c B d N E H.out.1).mono ?_
 rintro e w1 ⟨rfl,b1⟩
 rw [HN.out]
 have k1:=H.out.2.1.upd (Upd.of_below b1 (fun _ => False)) id
 have fin:∀ w8:World,Blk w8 w.heap.size 34 #[.slice none 0 0,.slice none 0 0]→∀ v0 v1:Value,Blk ((w8.setCell ⟨w.heap.size,0,none⟩ v0).setCell ⟨w.heap.size,1,none⟩ v1) w.heap.size 34 #[v0,v1]∧Upd (fun q => q = w.heap.size) w8 ((w8.setCell ⟨w.heap.size,0,none⟩ v0).setCell ⟨w.heap.size,1,none⟩ v1):=fun w8 k8 v0 v1 =>
  ⟨(k8.set 0 v0).set 1 v1,((Upd.refl (fun q => q = w.heap.size) w8).setCell (p:=⟨w.heap.size,0,none⟩) (.inl rfl) v0).setCell (p:=⟨w.heap.size,1,none⟩) (.inl rfl) v1⟩
 have H1:=Lib.hid (And.intro (H.out.1.below b1) (And.intro k1 (H.out.2.2.trans (b1.mono H.out.2.2.size))))
 have FN:=Lib.hid fin
 have z1:=b1.size
 clear k1 b1 fin
 cases b0
 ·have c0:w1.cell? ⟨w.heap.size,0,none⟩ = some (.slice none 0 0):=H1.out.2.1.cell 0
  have c1':w1.cell? ⟨w.heap.size,1,none⟩ = some (.slice none 0 0):=H1.out.2.1.cell 1
  have f0:=H1.out.2.1.frozen 0
  have f1:=H1.out.2.1.frozen 1
  obtain ⟨kF,uF⟩:=FN.out _ H1.out.2.1 (.slice none 0 0) (.slice none 0 0)
  have e0:=kF.cell 0
  have e1:=kF.cell 1
  simp only [List.getElem?_toArray,List.getElem?_cons_succ,List.getElem?_cons_zero] at e0 e1
  have FIN:=Lib.hid (show OfP w N E (.returned (.tuple #[twoV none 0 0 none 0 0,.int .i64 173])) _ from .inl ⟨HN.out,rfl,H1.out.2.2.trans (uF.below (fun q _ e => by omega) H1.out.2.2.size)⟩)
  clear kF uF
  go_wp2
  refine bodyPost_ret (v:=.tuple #[twoV none 0 0 none 0 0,.int .i64 173]) (by simp [results,Tryz.f108,go_sem,twoV,e0,e1]) rfl FIN.out
 ·go_wp2_with fail
  refine (made_any w1 A c B d N E H1.out.1 (Short.of HN.out) hb).mono ?_
  rintro e w2 (⟨hc,A2,c2,B2,d2,rfl,oT,oE,b2⟩ | ⟨hc,rfl,b2⟩)
  ·have k2:=H1.out.2.1.upd (Upd.of_below b2 (fun _ => False)) id
   have c0:w2.cell? ⟨w.heap.size,0,none⟩ = some (.slice none 0 0):=k2.cell 0
   have c1':w2.cell? ⟨w.heap.size,1,none⟩ = some (.slice none 0 0):=k2.cell 1
   have f0:=k2.frozen 0
   have f1:=k2.frozen 1
   obtain ⟨n,hn⟩:∃ n,(gN N E).length = n:=⟨_,rfl⟩
   obtain ⟨m,hm⟩:∃ m,(gE E).length = m:=⟨_,rfl⟩
   obtain ⟨kF,uF⟩:=FN.out _ k2 (.slice A2 n c2) (.slice B2 m d2)
   have e0:=kF.cell 0
   have e1:=kF.cell 1
   simp only [List.getElem?_toArray,List.getElem?_cons_succ,List.getElem?_cons_zero] at e0 e1
   have bw:=H1.out.2.2.trans (b2.mono H1.out.2.2.size)
   have FIN:=Lib.hid (show OfP w N E (.returned (.tuple #[twoV A2 n c2 B2 m d2,.int .i64 0])) _ from .inr ⟨HN.out,.inl ⟨hc,A2,c2,B2,d2,by rw [hn,hm],ownsRow_base (ownsRow_upd oT uF (fun q hq e => by have:=(oT.lt q hq).1;omega)) (fun q hq => by have:=(oT.lt q hq).1;omega),ownsRow_base (ownsRow_upd oE uF (fun q hq e => by have:=(oE.lt q hq).1;omega)) (fun q hq => by have:=(oE.lt q hq).1;omega),bw.trans (uF.below (fun q _ e => by omega) bw.size)⟩⟩)
   rw [hn,hm]
   unfold twoV
   clear kF uF oT oE b2 bw k2 hc hn hm
   go_wp2
   refine bodyPost_ret (v:=.tuple #[twoV A2 n c2 B2 m d2,.int .i64 0]) (by simp [results,Tryz.f108,go_sem,twoV,e0,e1]) rfl FIN.out
  ·have k2:=H1.out.2.1.upd (Upd.of_below b2 (fun _ => False)) id
   have c0:w2.cell? ⟨w.heap.size,0,none⟩ = some (.slice none 0 0):=k2.cell 0
   have c1':w2.cell? ⟨w.heap.size,1,none⟩ = some (.slice none 0 0):=k2.cell 1
   have f0:=k2.frozen 0
   have f1:=k2.frozen 1
   obtain ⟨cp,hcp⟩:∃ cp,capsI (gN N E) (gE E) = cp:=⟨_,rfl⟩
   obtain ⟨kF,uF⟩:=FN.out _ k2 (.slice none 0 0) (.slice none 0 0)
   have e0:=kF.cell 0
   have e1:=kF.cell 1
   simp only [List.getElem?_toArray,List.getElem?_cons_succ,List.getElem?_cons_zero] at e0 e1
   have bw:=H1.out.2.2.trans (b2.mono H1.out.2.2.size)
   have FIN:=Lib.hid (show OfP w N E (.returned (.tuple #[twoV none 0 0 none 0 0,.int .i64 cp])) _ from .inr ⟨HN.out,.inr ⟨hc,by rw [hcp],bw.trans (uF.below (fun q _ e => by omega) bw.size)⟩⟩)
   rw [hcp]
   unfold twoV
   clear kF uF b2 bw k2 hc hcp
   go_wp2
   refine bodyPost_ret (v:=.tuple #[twoV none 0 0 none 0 0,.int .i64 cp]) (by simp [results,Tryz.f108,go_sem,twoV,e0,e1]) rfl FIN.out
end Go.Proofs.YtddffnonlmfhdaaGreatDoor
namespace Go.Proofs.YtddffnonlmfhdaaGreatDoor
open Go.RowKit
def sameB (N:List Txt) (E:List Ed) (N':List Txt) (E':List Ed):Bool:=decide (N = N') && decide (E = E')
end Go.Proofs.YtddffnonlmfhdaaGreatDoor
namespace Go.Proofs.YtddffnonlmfhdaaGreatDoor
open Go.RowKit
theorem flat_sub {α β:Type} [DecidableEq α] (f:α→List β):∀ {L M:List α},L.Nodup→(∀ x ∈ L,x ∈ M)→(L.flatMap f).length ≤ (M.flatMap f).length
 | [],M,_,_ => by simp
 | a :: L,M,hd,hs => by
  obtain ⟨h1,h2⟩:=List.nodup_cons.1 hd
  have hp:=List.perm_cons_erase (hs a (by simp))
  have ih:=flat_sub f (L:=L) (M:=M.erase a) h2 (fun x hx => by
   have hne:x ≠ a:=by rintro rfl;exact h1 hx
   exact (List.mem_erase_of_ne hne).2 (hs x (by simp [hx])))
  have hl:=(hp.flatMap_right f).length_eq
  rw [List.flatMap_cons,List.length_append] at hl ⊢
  omega
theorem len_sub {α:Type} [DecidableEq α] {L M:List α} (hd:L.Nodup) (hs:∀ x ∈ L,x ∈ M):L.length ≤ M.length:=by
 have:=flat_sub (fun x => [x]) hd hs
 simpa using this
theorem Rises.nodup {α:Type} {lt:α→α→Bool} (hs:Sto lt) {l:List α} (h:Rises lt l):l.Nodup:=List.Pairwise.imp (fun {_a _b} h => hs.ne h) h
theorem mem_ends {E:List Ed} {s:Txt}:s ∈ endsTo E E.length ↔ ∃ x ∈ E,s = x.fr ∨ s = x.to:=by
 rw [endsTo_iff]
 constructor
 ·rintro ⟨i,x,_,hx,h⟩
  exact ⟨x,List.mem_of_getElem? hx,h⟩
 ·rintro ⟨x,hx,h⟩
  obtain ⟨i,hi,e⟩:=List.getElem_of_mem hx
  exact ⟨i,x,hi,by rw [List.getElem?_eq_getElem hi,e],h⟩
theorem mem_lone {N:List Txt} {E:List Ed} {s:Txt}:s ∈ loneL N E ↔ s ∈ N∧¬ ∃ x ∈ E,s = x.fr ∨ s = x.to:=by
 unfold loneL
 rw [List.mem_filter,← mem_ends,← inB_iff (s:=s) (N:=endsTo E E.length)]
 simp
theorem lineN_len (s:Txt):(lineN s).length = s.size + 3:=by simp [lineN,sepL]
theorem lineE_len (x:Ed):(lineE x).length = x.fr.size + x.lb.size + x.to.size + 5:=by simp [lineE,sepL];omega
theorem ends_lines:∀ (D:List Ed),(∀ x ∈ D,1 ≤ x.lb.size)→((D.flatMap endsL).flatMap lineN).length ≤ (D.flatMap lineE).length
 | [],_ => by simp
 | x :: D,h => by
  have ih:=ends_lines D (fun y hy => h y (by simp [hy]))
  have h1:=h x (by simp)
  simp only [List.flatMap_cons,List.flatMap_append,List.length_append,lineE_len]
  simp only [endsL,List.flatMap_cons,List.flatMap_nil,List.append_nil,List.length_append,lineN_len]
  omega
theorem text_sub {N N':List Txt} {E E':List Ed} (hN:N'.Nodup) (hE:E.Nodup) (hE':E'.Nodup) (sN:∀ s ∈ N',s ∈ N) (sE:∀ x ∈ E',x ∈ E) (hl:∀ x ∈ E,1 ≤ x.lb.size) :
  (textL N' E').length ≤ (textL N E).length:=by
 have h1:(loneL N' E').Nodup:=List.Nodup.sublist List.filter_sublist hN
 have h2:((loneL N' E').flatMap lineN).length ≤ ((loneL N E ++ (E.filter fun x => !decide (x ∈ E')).flatMap endsL).flatMap lineN).length:=by
  refine flat_sub lineN h1 (fun s hs => ?_)
  obtain ⟨m1,m2⟩:=mem_lone.1 hs
  rw [List.mem_append]
  by_cases h:∃ x ∈ E,s = x.fr ∨ s = x.to
  ·obtain ⟨x,hx,hsx⟩:=h
   refine .inr (List.mem_flatMap.2 ⟨x,List.mem_filter.2 ⟨hx,?_⟩,?_⟩)
   ·simp only [Bool.not_eq_true',decide_eq_false_iff_not]
    intro hx'
    exact m2 ⟨x,hx',hsx⟩
   ·simp [endsL];exact hsx
  ·exact .inl (mem_lone.2 ⟨sN s m1,h⟩)
 have h3:=ends_lines (E.filter fun x => !decide (x ∈ E')) (fun x hx => hl x (List.mem_filter.1 hx).1)
 have h4:((E' ++ E.filter fun x => !decide (x ∈ E')).flatMap lineE).length ≤ (E.flatMap lineE).length:=by
  refine flat_sub lineE ?_ (fun x hx => ?_)
  ·rw [List.nodup_append]
   refine ⟨hE',List.Nodup.sublist List.filter_sublist hE,fun a ha b hb => ?_⟩
   rintro rfl
   have:=(List.mem_filter.1 hb).2
   simp [ha] at this
  ·rcases List.mem_append.1 hx with hx | hx
   ·exact sE x hx
   ·exact (List.mem_filter.1 hx).1
 unfold textL
 simp only [List.flatMap_append,List.length_append] at h2 h4 ⊢
 omega
theorem lbs_mem {E:List Ed} {s:Txt}:s ∈ lbs E ↔ ∃ x ∈ E,x.lb = s:=List.mem_map
theorem caps_sub {N N':List Txt} {E E':List Ed} (hN:N'.Nodup) (hE:E.Nodup) (hE':E'.Nodup) (sN:∀ s ∈ N',s ∈ N) (sE:∀ x ∈ E',x ∈ E) (hl:∀ x ∈ E,1 ≤ x.lb.size) (h:capsI N E = 0):capsI N' E' = 0:=by
 unfold capsI at h ⊢
 have h1:=len_sub hN sN
 have h2:(setOf ltT (lbs E')).length ≤ (setOf ltT (lbs E)).length:=len_sub ((setOf_is stoT _).up.nodup stoT) (fun s hs => by
  obtain ⟨x,hx,e⟩:=lbs_mem.1 (((setOf_is stoT _).mem s).1 hs)
  exact ((setOf_is stoT _).mem s).2 (lbs_mem.2 ⟨x,sE x hx,e⟩))
 have h3:=len_sub hE' sE
 have h4:=text_sub hN hE hE' sN sE hl
 split at h
 ·omega
 split at h
 ·omega
 split at h
 ·omega
 split at h
 ·omega
 rw [if_neg (by omega),if_neg (by omega),if_neg (by omega),if_neg (by omega)]

def ofI (N:List Txt) (E:List Ed):Int:=if namedB N E = false then 173 else capsI (gN N E) (gE E)
theorem named_iff {N:List Txt} {E:List Ed}:namedB N E = true ↔ (∀ s ∈ N,nameB s = true)∧∀ x ∈ E,nameB x.fr = true∧labelB x.lb = true∧nameB x.to = true:=by
 unfold namedB edNamed
 simp [List.all_eq_true]
theorem gN_mem {N:List Txt} {E:List Ed} {s:Txt}:s ∈ gN N E ↔ s ∈ N ∨ ∃ x ∈ E,s = x.fr ∨ s = x.to:=((setOf_is stoT _).mem s).trans mem_all
theorem gE_mem {E:List Ed} {x:Ed}:x ∈ gE E ↔ x ∈ E:=(setOf_is stoE E).mem x
theorem gN_nodup (N:List Txt) (E:List Ed):(gN N E).Nodup:=(setOf_is stoT _).up.nodup stoT
theorem gE_nodup (E:List Ed):(gE E).Nodup:=(setOf_is stoE _).up.nodup stoE
theorem ofI_named {N:List Txt} {E:List Ed} (h:ofI N E = 0):namedB N E = true:=by
 unfold ofI at h
 split at h
 ·cases h
 ·rename_i h1;simpa using h1
theorem ofI_caps {N:List Txt} {E:List Ed} (h:ofI N E = 0):capsI (gN N E) (gE E) = 0:=by
 unfold ofI at h
 split at h
 ·cases h
 ·exact h
theorem lb_len {N:List Txt} {E:List Ed} (h:namedB N E = true):∀ x ∈ E,1 ≤ x.lb.size:=fun x hx => (nameB_short (labelB_name ((named_iff.1 h).2 x hx).2.1)).1
theorem ofI_sub {N N':List Txt} {E E':List Ed} (sN:∀ s ∈ N',s ∈ N ∨ ∃ x ∈ E,s = x.fr ∨ s = x.to) (sE:∀ x ∈ E',x ∈ E) (h:ofI N E = 0):ofI N' E' = 0:=by
 have hn:=ofI_named h
 have hn':namedB N' E' = true:=by
  rw [named_iff] at hn ⊢
  refine ⟨fun s hs => ?_,fun x hx => hn.2 x (sE x hx)⟩
  rcases sN s hs with h1 | ⟨x,hx,rfl | rfl⟩
  ·exact hn.1 s h1
  ·exact (hn.2 x hx).1
  ·exact (hn.2 x hx).2.2
 unfold ofI
 rw [hn']
 simp only [Bool.true_eq_false,if_false]
 refine caps_sub (gN_nodup _ _) (gE_nodup _) (gE_nodup _) (fun s hs => ?_) (fun x hx => gE_mem.2 (sE x (gE_mem.1 hx))) (fun x hx => lb_len hn x (gE_mem.1 hx)) (ofI_caps h)
 rw [gN_mem] at hs ⊢
 rcases hs with h1 | ⟨x,hx,h1⟩
 ·exact sN s h1
 ·exact .inr ⟨x,sE x hx,h1⟩
theorem gN_same {N N':List Txt} {E E':List Ed} (h:∀ s,(s ∈ N ∨ ∃ x ∈ E,s = x.fr ∨ s = x.to) ↔ (s ∈ N' ∨ ∃ x ∈ E',s = x.fr ∨ s = x.to)):gN N E = gN N' E':=
 (setOf_is stoT _).uniq stoT (setOf_is stoT _) (fun s => mem_all.trans ((h s).trans mem_all.symm))
theorem gE_same {E E':List Ed} (h:∀ x,x ∈ E ↔ x ∈ E'):gE E = gE E':=(setOf_is stoE _).uniq stoE (setOf_is stoE _) h
theorem ofI_same {N N':List Txt} {E E':List Ed} (h:∀ s,(s ∈ N ∨ ∃ x ∈ E,s = x.fr ∨ s = x.to) ↔ (s ∈ N' ∨ ∃ x ∈ E',s = x.fr ∨ s = x.to)) (k:∀ x,x ∈ E ↔ x ∈ E')
  (hm:∀ s ∈ N,s ∈ N' ∨ ∃ x ∈ E',s = x.fr ∨ s = x.to) (hm':∀ s ∈ N',s ∈ N ∨ ∃ x ∈ E,s = x.fr ∨ s = x.to):ofI N E = ofI N' E':=by
 have h1:namedB N E = namedB N' E':=by
  rw [Bool.eq_iff_iff,named_iff,named_iff]
  constructor
  ·rintro ⟨a,b⟩
   refine ⟨fun s hs => ?_,fun x hx => b x ((k x).2 hx)⟩
   rcases hm' s hs with h1 | ⟨x,hx,rfl | rfl⟩
   ·exact a s h1
   ·exact (b x hx).1
   ·exact (b x hx).2.2
  ·rintro ⟨a,b⟩
   refine ⟨fun s hs => ?_,fun x hx => b x ((k x).1 hx)⟩
   rcases hm s hs with h1 | ⟨x,hx,rfl | rfl⟩
   ·exact a s h1
   ·exact (b x hx).1
   ·exact (b x hx).2.2
 unfold ofI
 rw [h1,gN_same h,gE_same k]

structure Gr where
 N:List Txt
 X:List Ed
structure GOk (G:Gr):Prop where
 nd:G.N.Nodup
 xd:G.X.Nodup
 ends:∀ x ∈ G.X,x.fr ∈ G.N∧x.to ∈ G.N
 may:ofI G.N G.X = 0
def addN (N:List Txt) (s:Txt):List Txt:=if inB s N = true then N else N ++ [s]
theorem mem_addN {N:List Txt} {s t:Txt}:t ∈ addN N s ↔ t ∈ N ∨ t = s:=by
 unfold addN
 split
 ·rename_i h
  constructor
  ·exact .inl
  ·rintro (h1 | rfl)
   ·exact h1
   ·exact inB_iff.1 h
 ·simp
theorem addN_nodup {N:List Txt} (h:N.Nodup) (s:Txt):(addN N s).Nodup:=by
 unfold addN
 split
 ·exact h
 ·rename_i hs
  rw [List.nodup_append]
  refine ⟨h,by simp,fun a ha b hb => ?_⟩
  rw [List.mem_singleton] at hb
  subst hb
  rintro rfl
  exact hs (inB_iff.2 ha)
def addNode (G:Gr) (s:Txt):Gr × Bool × Int:=
 if inB s G.N = true then (G,false,0) else if ofI (G.N ++ [s]) G.X = 0 then (⟨G.N ++ [s],G.X⟩,true,0) else (G,false,ofI (G.N ++ [s]) G.X)
def addEdge (G:Gr) (x:Ed):Gr × Bool × Int:=
 if x ∈ G.X then (G,false,0) else if ofI G.N (G.X ++ [x]) = 0 then (⟨addN (addN G.N x.fr) x.to,G.X ++ [x]⟩,true,0) else (G,false,ofI G.N (G.X ++ [x]))
theorem GOk.new:GOk ⟨[],[]⟩:=⟨by simp,by simp,by simp,by
 have h1:gE [] = []:=by
  have h:∀ x:Ed,x ∉ gE []:=fun x hx => by simpa using gE_mem.1 hx
  exact List.eq_nil_iff_forall_not_mem.2 h
 have h2:gN [] [] = []:=by
  have h:∀ x:Txt,x ∉ gN [] []:=fun x hx => by simpa using gN_mem.1 hx
  exact List.eq_nil_iff_forall_not_mem.2 h
 have h3:setOf ltT (lbs []) = []:=by
  have h:∀ x:Txt,x ∉ setOf ltT (lbs []):=fun x hx => by simpa [lbs] using ((setOf_is stoT _).mem x).1 hx
  exact List.eq_nil_iff_forall_not_mem.2 h
 simp [ofI,namedB,h1,h2,capsI,h3,textL,loneL]⟩
theorem GOk.node {G:Gr} (h:GOk G) (s:Txt):GOk (addNode G s).1:=by
 unfold addNode
 split
 ·exact h
 split
 ·rename_i h1 h2
  refine ⟨?_,h.xd,fun x hx => ⟨List.mem_append.2 (.inl (h.ends x hx).1),List.mem_append.2 (.inl (h.ends x hx).2)⟩,h2⟩
  have:=addN_nodup h.nd s
  unfold addN at this
  rwa [if_neg h1] at this
 ·exact h
theorem GOk.edge {G:Gr} (h:GOk G) (x:Ed):GOk (addEdge G x).1:=by
 unfold addEdge
 split
 ·exact h
 split
 ·rename_i h1 h2
  refine ⟨addN_nodup (addN_nodup h.nd _) _,?_,?_,?_⟩
  ·rw [List.nodup_append]
   refine ⟨h.xd,by simp,fun a ha b hb => ?_⟩
   rw [List.mem_singleton] at hb
   subst hb
   rintro rfl
   exact h1 ha
  ·intro y hy
   simp only [mem_addN]
   rcases List.mem_append.1 hy with hy | hy
   ·exact ⟨.inl (.inl (h.ends y hy).1),.inl (.inl (h.ends y hy).2)⟩
   ·rw [List.mem_singleton] at hy
    subst hy
    exact ⟨.inl (.inr rfl),.inr rfl⟩
  ·refine ofI_sub (N:=G.N) (E:=G.X ++ [x]) (fun s hs => ?_) (fun _ hy => hy) h2
   simp only [mem_addN] at hs
   rcases hs with (hs | rfl) | rfl
   ·exact .inl hs
   ·exact .inr ⟨x,by simp,.inl rfl⟩
   ·exact .inr ⟨x,by simp,.inr rfl⟩
 ·exact h
def datN (G:Gr):List Txt:=gN G.N G.X
def datE (G:Gr):List Ed:=gE G.X
theorem datN_mem {G:Gr} (h:GOk G) {s:Txt}:s ∈ datN G ↔ s ∈ G.N:=by
 unfold datN
 rw [gN_mem]
 constructor
 ·rintro (h1 | ⟨x,hx,rfl | rfl⟩)
  ·exact h1
  ·exact (h.ends x hx).1
  ·exact (h.ends x hx).2
 ·exact .inl
theorem ofI_dat {G:Gr} (N:List Txt) (E:List Ed):ofI (datN G ++ N) (datE G ++ E) = ofI (G.N ++ N) (G.X ++ E):=by
 have e:∀ x,x ∈ datE G ++ E ↔ x ∈ G.X ++ E:=fun x => by rw [List.mem_append,List.mem_append,datE,gE_mem]
 have m1:∀ s ∈ datN G ++ N,s ∈ G.N ++ N ∨ ∃ x ∈ G.X ++ E,s = x.fr ∨ s = x.to:=fun s hs => by
  rcases List.mem_append.1 hs with hs | hs
  ·rcases gN_mem.1 hs with h1 | ⟨x,hx,h1⟩
   ·exact .inl (List.mem_append.2 (.inl h1))
   ·exact .inr ⟨x,List.mem_append.2 (.inl hx),h1⟩
  ·exact .inl (List.mem_append.2 (.inr hs))
 have m2:∀ s ∈ G.N ++ N,s ∈ datN G ++ N ∨ ∃ x ∈ datE G ++ E,s = x.fr ∨ s = x.to:=fun s hs => by
  rcases List.mem_append.1 hs with hs | hs
  ·exact .inl (List.mem_append.2 (.inl (gN_mem.2 (.inl hs))))
  ·exact .inl (List.mem_append.2 (.inr hs))
 refine ofI_same (fun s => ?_) e m1 m2
 constructor
 ·rintro (h | ⟨x,hx,h⟩)
  ·exact m1 s h
  ·exact .inr ⟨x,(e x).1 hx,h⟩
 ·rintro (h | ⟨x,hx,h⟩)
  ·exact m2 s h
  ·exact .inr ⟨x,(e x).2 hx,h⟩
end Go.Proofs.YtddffnonlmfhdaaGreatDoor
namespace Go.Proofs.YtddffnonlmfhdaaGreatDoor
open Go
section
variable {P:Program} {ops:Array Oper} {Q:Exit→Act→World→Prop} {md:Region.Mode} {S:World→Prop} {n:Nat}
theorem wp_region_any2 {rid:Nat} {a:Act} {w:World} {l:List Oper} (S:World→Prop) (hm:P.follows .mixedOrders = true) (_hsel:Region.noSelect l.toArray = true)
  (_hS:S w.drew) (h:wpAnyC P .any l.toArray Q S l.toArray.size l.length (Array.replicate l.toArray.size false) a w.drew):(Code.region rid l.toArray true).wp P Q a w:=by
 refine wp_region_any hm (wpAny_of_C (S:=S) (n:=l.toArray.size) _ _ _ _ ?_)
 simpa using h
theorem any_start {f m:Nat} {a:Act} {w:World} (h:Down md ops (Array.replicate m false)→wpAnyC P md ops Q S n f (Array.replicate m false) a w):wpAnyC P md ops Q S n f (Array.replicate m false) a w:=h (down_start m)
theorem any_take {i f:Nat} {listed:Array Bool} {a:Act} {w:World} {oi:Oper} {v:Value} (hi:ops[i]? = some oi) (hB:(Region.noSelect ops && Region.free md ops listed i && (Region.ready md ops listed).contains i) = true)
  (hd:Down md ops listed) (hn:ops.size ≤ n) (hQ:∀ c a d v w,Q (.panic c) (Act.put a d v) w→Q (.panic c) a w) (hS:S w)
  (hw:Region.wanted oi (yielded ops a.tmps) = true) (hy:∀ w,S w→(execOp a.eval oi).run P w = .ok (.value v) w)
  (h:Down md ops (listed.setIfInBounds i true)→wpAnyC P md ops Q S n f (listed.setIfInBounds i true) (a.put oi.dst v) w):wpAnyC P md ops Q S n (f + 1) listed a w:=by
 simp only [Bool.and_eq_true] at hB
 obtain ⟨⟨h1,h2⟩,h3⟩:=hB
 have hr:i ∈ Region.ready md ops listed:=by simpa using h3
 exact wpAnyC_first (f:=ops.size) hi (Region.noSelect_spec h1) (fun c a w => hQ c a _ _ w) (.inl hn) f listed a w (Region.free_spec hi h2) hd hr (.inl ⟨hw,hy⟩) hS (h (hd.set hr))
theorem any_run {f:Nat} {listed:Array Bool} {a:Act} {w:World} {L:List Nat} (hd:Down md ops listed) (hL:Region.ready md ops listed = L) (hne:L ≠ [])
  (h:∀ i ∈ L,(Down md ops (listed.setIfInBounds i true))→wpOp P ops Q i (fun a' w' => (i ≠ n→S w')∧wpAnyC P md ops Q S n f (listed.setIfInBounds i true) a' w') a w):wpAnyC P md ops Q S n (f + 1) listed a w:=
 any_step hL hne (fun i hi => h i hi (hd.set (by rw [hL];exact hi)))
end
theorem any_takeA {P:Program} {ops:Array Oper} {Q:Exit→Act→World→Prop} {S:World→Prop} {a:Act} {w:World} {oi:Oper} {v:Value} {md:Region.Mode} {n i f:Nat} {listed:Array Bool} (hi:ops[i]? = some oi) (hd:Down md ops listed) (hS:S w) (h:Down md ops (listed.setIfInBounds i true)→wpAnyC P md ops Q S n f (listed.setIfInBounds i true) (a.put oi.dst v) w) (hn:ops.size ≤ n:=by exact Nat.le_refl _) (hB:(Region.noSelect ops && Region.free md ops listed i && (Region.ready md ops listed).contains i) = true:=by kernel_rfl) (hQ:∀ c a d v w,Q (.panic c) (Act.put a d v) w→Q (.panic c) a w:=by intro _ _ d _ _ h;cases d <;> exact h) (hw:Region.wanted oi (yielded ops a.tmps) = true:=by first | with_reducible rfl | kernel_rfl) (hy:∀ w,S w→(execOp a.eval oi).run P w = .ok (.value v) w:=by intro wS hS;(try dsimp only at hS);go_split_ands;go_simp;(try with_reducible rfl);done):wpAnyC P md ops Q S n (f + 1) listed a w:=any_take hi hB hd hn hQ hS hw hy h
end Go.Proofs.YtddffnonlmfhdaaGreatDoor
namespace Go.Proofs.YtddffnonlmfhdaaGreatDoor
open Go
section
variable {P:Program} {ops:Array Oper} {Q:Exit→Act→World→Prop} {md:Region.Mode} {S:World→Prop} {late:Nat→Bool}
def lateFrom (n i:Nat):Bool:=decide (n ≤ i)
def wpAnyL (P:Program) (md:Region.Mode) (ops:Array Oper) (Q:Exit→Act→World→Prop) (S:World→Prop) (late:Nat→Bool):Nat→Array Bool→Act→World→Prop
 | 0,listed,a,w => Region.ready md ops listed = []∧Q .normal a w
 | fuel + 1,listed,a,w =>
  (Region.ready md ops listed = []→Q .normal a w) ∧
  ∀ i ∈ Region.ready md ops listed,wpOp P ops Q i (fun a' w' => (late i = false→S w→S w')∧wpAnyL P md ops Q S late fuel (listed.setIfInBounds i true) a' w') a w
theorem wpAny_of_L:∀ (fuel:Nat) (listed:Array Bool) (a:Act) (w:World),wpAnyL P md ops Q S late fuel listed a w→wpAny P md ops Q fuel listed a w
 | 0,_,_,_,h => h
 | fuel + 1,_,_,_,h => ⟨h.1,fun i hi => wpOp_mono (fun a' w' h' => wpAny_of_L fuel _ a' w' h'.2) (h.2 i hi)⟩
theorem wpAnyL_first {i f:Nat} {oi:Oper} {v:Value} (hi:ops[i]? = some oi) (hsel:∀ (j:Nat) (o:Oper) cs b,ops[j]? = some o→o.op ≠ .select cs b)
  (hQ:∀ c a w,Q (.panic c) (a.put oi.dst v) w→Q (.panic c) a w) (hpn:∀ j,j < ops.size→late j = true→i ∈ preds md ops f [j]) :
  ∀ (fuel:Nat) (listed:Array Bool) (a:Act) (w:World),
   (∀ j oj,ops[j]? = some oj→j ≠ i→listed.getD j true = false→(∀ e ∈ oj.after,Region.binds md e = true→e.on ≠ i)→oi.apart ops oj = true) →
   Down md ops listed→i ∈ Region.ready md ops listed→YieldsIf P ops S oi v a→S w →
   wpAnyL P md ops Q S late fuel (listed.setIfInBounds i true) (a.put oi.dst v) w→wpAnyL P md ops Q S late (fuel + 1) listed a w:=by
 intro fuel
 induction fuel with
 | zero =>
  intro listed a w _ _ hr hy hS H
  refine ⟨fun h => (by rw [h] at hr;cases hr),fun j hj => ?_⟩
  by_cases hji:j = i
  ·subst hji;exact hy.wpOp hi hS ⟨fun _ h => h,H⟩
  ·have:=ready_mono hj hji
   rw [H.1] at this
   cases this
 | succ fuel ih =>
  intro listed a w hfree hd hr hy hS H
  refine ⟨fun h => (by rw [h] at hr;cases hr),fun j hj => ?_⟩
  by_cases hji:j = i
  ·subst hji;exact hy.wpOp hi hS ⟨fun _ h => h,H⟩
  ·have h1:=H.2 j (ready_mono hj hji)
   obtain ⟨hjun,oj,hoj,hall⟩:=mem_ready.1 hj
   have hiun:listed.getD i false = false:=by
    have h0:=(mem_ready.1 hr).1
    rcases Nat.lt_or_ge i listed.size with h' | h'
    ·simp [h'] at h0 ⊢;exact h0
    ·simp [Array.getElem?_eq_none h']
   have hnot:∀ e ∈ oj.after,Region.binds md e = true→e.on ≠ i:=fun e he hb heq => by
    have h1:=hall e he hb
    rw [heq,hiun] at h1
    cases h1
   have hjn:late j = false:=by
    cases hp:late j with
    | false => rfl
    | true =>
     exfalso
     have hp:=hpn j (Array.getElem?_eq_some_iff.1 hoj).1 hp
     have hd':=hd.set hj
     have hl:∀ k ∈ [j],(listed.setIfInBounds j true).getD k false = true:=by
      intro k hk
      obtain rfl:=List.mem_singleton.1 hk
      have hks:k < listed.size:=by
       rcases Nat.lt_or_ge k listed.size with h' | h'
       ·exact h'
       ·simp [Array.getElem?_eq_none h'] at hjun
      simp [hks]
     have:=preds_listed hd' f [j] hl i hp
     rw [getD_set_ne false hji,hiun] at this
     cases this
   have h2:=wpOp_putIf hoj (hfree j oj hoj hji hjun hnot) (fun cs b => hsel i oi cs b hi) (fun cs b => hsel j oj cs b hoj) hQ hy h1
   have hfree':∀ k ok,ops[k]? = some ok→k ≠ i→(listed.setIfInBounds j true).getD k true = false →
     (∀ e ∈ ok.after,Region.binds md e = true→e.on ≠ i)→oi.apart ops ok = true:=fun k ok hk hki hun hno => by
    refine hfree k ok hk hki ?_ hno
    by_cases hjk:j = k
    ·subst hjk;exact hjun
    ·rw [getD_set_ne true hjk] at hun;exact hun
   refine wpOp_mono (fun a' w' h3 => ⟨h3.2.1,ih (listed.setIfInBounds j true) a' w' hfree' (hd.set hj) (ready_mono hr (Ne.symm hji)) h3.1 (h3.2.1 hjn hS) ?_⟩) h2
   rw [Array.setIfInBounds_comm _ _ hji]
   exact h3.2.2
theorem wpAnyL_first0 {i:Nat} {oi:Oper} {v:Value} (hi:ops[i]? = some oi) (hsel:∀ (j:Nat) (o:Oper) cs b,ops[j]? = some o→o.op ≠ .select cs b)
  (hQ:∀ c a w,Q (.panic c) (a.put oi.dst v) w→Q (.panic c) a w) :
  ∀ (fuel:Nat) (listed:Array Bool) (a:Act) (w:World),
   (∀ j oj,ops[j]? = some oj→j ≠ i→listed.getD j true = false→(∀ e ∈ oj.after,Region.binds md e = true→e.on ≠ i)→oi.apart ops oj = true) →
   Down md ops listed→i ∈ Region.ready md ops listed→YieldsIf P ops (fun _ => True) oi v a →
   wpAnyL P md ops Q S late fuel (listed.setIfInBounds i true) (a.put oi.dst v) w→wpAnyL P md ops Q S late (fuel + 1) listed a w:=by
 intro fuel
 induction fuel with
 | zero =>
  intro listed a w _ _ hr hy H
  refine ⟨fun h => (by rw [h] at hr;cases hr),fun j hj => ?_⟩
  by_cases hji:j = i
  ·subst hji;exact hy.wpOp hi trivial ⟨fun _ h => h,H⟩
  ·have:=ready_mono hj hji
   rw [H.1] at this
   cases this
 | succ fuel ih =>
  intro listed a w hfree hd hr hy H
  refine ⟨fun h => (by rw [h] at hr;cases hr),fun j hj => ?_⟩
  by_cases hji:j = i
  ·subst hji;exact hy.wpOp hi trivial ⟨fun _ h => h,H⟩
  ·have h1:=H.2 j (ready_mono hj hji)
   obtain ⟨hjun,oj,hoj,hall⟩:=mem_ready.1 hj
   have hiun:listed.getD i false = false:=by
    have h0:=(mem_ready.1 hr).1
    rcases Nat.lt_or_ge i listed.size with h' | h'
    ·simp [h'] at h0 ⊢;exact h0
    ·simp [Array.getElem?_eq_none h']
   have hnot:∀ e ∈ oj.after,Region.binds md e = true→e.on ≠ i:=fun e he hb heq => by
    have h1:=hall e he hb
    rw [heq,hiun] at h1
    cases h1
   have h2:=wpOp_putIf hoj (hfree j oj hoj hji hjun hnot) (fun cs b => hsel i oi cs b hi) (fun cs b => hsel j oj cs b hoj) hQ hy h1
   have hfree':∀ k ok,ops[k]? = some ok→k ≠ i→(listed.setIfInBounds j true).getD k true = false →
     (∀ e ∈ ok.after,Region.binds md e = true→e.on ≠ i)→oi.apart ops ok = true:=fun k ok hk hki hun hno => by
    refine hfree k ok hk hki ?_ hno
    by_cases hjk:j = k
    ·subst hjk;exact hjun
    ·rw [getD_set_ne true hjk] at hun;exact hun
   refine wpOp_mono (fun a' w' h3 => ⟨h3.2.1,ih (listed.setIfInBounds j true) a' w' hfree' (hd.set hj) (ready_mono hr (Ne.symm hji)) h3.1 ?_⟩) h2
   rw [Array.setIfInBounds_comm _ _ hji]
   exact h3.2.2
theorem wp_region_late {rid:Nat} {a:Act} {w:World} {l:List Oper} (S:World→Prop) (late:Nat→Bool) (hm:P.follows .mixedOrders = true)
  (h:Down .any l.toArray (Array.replicate l.toArray.size false)→wpAnyL P .any l.toArray Q S late l.length (Array.replicate l.toArray.size false) a w.drew):(Code.region rid l.toArray true).wp P Q a w:=by
 refine wp_region_any hm (wpAny_of_L (S:=S) (late:=late) _ _ _ _ ?_)
 simpa using h (down_start _)
theorem late_take {i f:Nat} {listed:Array Bool} {a:Act} {w:World} {oi:Oper} {v:Value} (hi:ops[i]? = some oi)
  (hB:(Region.noSelect ops && Region.free md ops listed i && (Region.ready md ops listed).contains i && (List.range ops.size).all fun j => !late j || (preds md ops ops.size [j]).contains i) = true)
  (hd:Down md ops listed) (hQ:∀ c a d v w,Q (.panic c) (Act.put a d v) w→Q (.panic c) a w) (hS:S w)
  (hw:Region.wanted oi (yielded ops a.tmps) = true) (hy:∀ w,S w→(execOp a.eval oi).run P w = .ok (.value v) w)
  (h:Down md ops (listed.setIfInBounds i true)→wpAnyL P md ops Q S late f (listed.setIfInBounds i true) (a.put oi.dst v) w):wpAnyL P md ops Q S late (f + 1) listed a w:=by
 simp only [Bool.and_eq_true] at hB
 obtain ⟨⟨⟨h1,h2⟩,h3⟩,h4⟩:=hB
 have hr:i ∈ Region.ready md ops listed:=by simpa using h3
 refine wpAnyL_first (f:=ops.size) hi (Region.noSelect_spec h1) (fun c a w => hQ c a _ _ w) (fun j hj hl => ?_) f listed a w (Region.free_spec hi h2) hd hr (.inl ⟨hw,hy⟩) hS (h (hd.set hr))
 have:=List.all_eq_true.1 h4 j (List.mem_range.2 hj)
 rw [hl] at this
 simpa using this
theorem late_take0 {i f:Nat} {listed:Array Bool} {a:Act} {w:World} {oi:Oper} {v:Value} (hi:ops[i]? = some oi)
  (hB:(Region.noSelect ops && Region.free md ops listed i && (Region.ready md ops listed).contains i) = true)
  (hd:Down md ops listed) (hQ:∀ c a d v w,Q (.panic c) (Act.put a d v) w→Q (.panic c) a w)
  (hw:Region.wanted oi (yielded ops a.tmps) = true) (hy:∀ w,(execOp a.eval oi).run P w = .ok (.value v) w)
  (h:Down md ops (listed.setIfInBounds i true)→wpAnyL P md ops Q S late f (listed.setIfInBounds i true) (a.put oi.dst v) w):wpAnyL P md ops Q S late (f + 1) listed a w:=by
 simp only [Bool.and_eq_true] at hB
 obtain ⟨⟨h1,h2⟩,h3⟩:=hB
 have hr:i ∈ Region.ready md ops listed:=by simpa using h3
 exact wpAnyL_first0 hi (Region.noSelect_spec h1) (fun c a w => hQ c a _ _ w) f listed a w (Region.free_spec hi h2) hd hr (.inl ⟨hw,fun w _ => hy w⟩) (h (hd.set hr))
theorem late_run {f:Nat} {listed:Array Bool} {a:Act} {w:World} {L:List Nat} (hd:Down md ops listed) (hL:Region.ready md ops listed = L) (hne:L ≠ [])
  (h:∀ i ∈ L,(Down md ops (listed.setIfInBounds i true))→wpOp P ops Q i (fun a' w' => (late i = false→S w→S w')∧wpAnyL P md ops Q S late f (listed.setIfInBounds i true) a' w') a w):wpAnyL P md ops Q S late (f + 1) listed a w:=by
 subst hL
 exact ⟨fun e => absurd e hne,fun i hi => h i hi (hd.set hi)⟩
theorem late_do {i f:Nat} {listed:Array Bool} {a:Act} {w:World} {oi:Oper} (hi:ops[i]? = some oi) (hg:oi.guard = none)
  (h:∀ K:Act→World→Prop,(∀ a w',(late i = false→S w→S w')→wpAnyL P md ops Q S late f (listed.setIfInBounds i true) a w'→K a w')→oi.wp P a w K Q) :
  wpOp P ops Q i (fun a' w' => (late i = false→S w→S w')∧wpAnyL P md ops Q S late f (listed.setIfInBounds i true) a' w') a w:=by
 unfold wpOp
 simp only [hi]
 rw [if_pos (by simp [Region.wanted,hg])]
 exact .inl (h _ fun a w h1 h2 => ⟨h1,h2⟩)
theorem late_done {listed:Array Bool} {a:Act} {w:World} (hL:Region.ready md ops listed = []) (h:Q .normal a w):wpAnyL P md ops Q S late 0 listed a w:=⟨hL,h⟩
end
theorem late_takeA {P:Program} {ops:Array Oper} {Q:Exit→Act→World→Prop} {S:World→Prop} {a:Act} {w:World} {oi:Oper} {v:Value} {md:Region.Mode} {late:Nat→Bool} {i f:Nat} {listed:Array Bool} (hi:ops[i]? = some oi) (hd:Down md ops listed) (hS:S w) (h:Down md ops (listed.setIfInBounds i true)→wpAnyL P md ops Q S late f (listed.setIfInBounds i true) (a.put oi.dst v) w) (hB:(Region.noSelect ops && Region.free md ops listed i && (Region.ready md ops listed).contains i && (List.range ops.size).all fun j => !late j || (preds md ops ops.size [j]).contains i) = true:=by kernel_rfl) (hQ:∀ c a d v w,Q (.panic c) (Act.put a d v) w→Q (.panic c) a w:=by intro _ _ d _ _ h;cases d <;> exact h) (hw:Region.wanted oi (yielded ops a.tmps) = true:=by first | with_reducible rfl | kernel_rfl) (hy:∀ w,S w→(execOp a.eval oi).run P w = .ok (.value v) w:=by intro wS hS;(try dsimp only at hS);go_split_ands;go_simp;(try with_reducible rfl);done):wpAnyL P md ops Q S late (f + 1) listed a w:=late_take hi hB hd hQ hS hw hy h
end Go.Proofs.YtddffnonlmfhdaaGreatDoor
namespace Go.Proofs.YtddffnonlmfhdaaGreatDoor
open Go.RowKit
def idxT (N:List Txt) (s:Txt):Nat:=N.findIdx fun t => decide (t = s)
theorem idxT_at {N:List Txt} {s:Txt} (h:s ∈ N):N[idxT N s]? = some s:=by
 have hl:idxT N s < N.length:=List.findIdx_lt_length_of_exists ⟨s,h,by simp⟩
 have:=List.findIdx_getElem (p:=fun t => decide (t = s)) (xs:=N) (w:=hl)
 rw [List.getElem?_eq_getElem hl]
 exact congrArg some (of_decide_eq_true this)
theorem idxT_lt {N:List Txt} {s:Txt} (h:s ∈ N):idxT N s < N.length:=(List.getElem?_eq_some_iff.1 (idxT_at h)).1
theorem idxT_out {N:List Txt} {s:Txt} (h:s ∉ N):idxT N s = N.length:=by
 unfold idxT
 rw [List.findIdx_eq_length]
 intro t ht
 rw [decide_eq_false]
 rintro rfl
 exact h ht
theorem idxT_app {N M:List Txt} {s:Txt} (h:s ∈ N):idxT (N ++ M) s = idxT N s:=by
 have hl:=idxT_lt h
 unfold idxT at hl ⊢
 rw [List.findIdx_append,if_pos hl]
theorem idxT_is {N:List Txt} (hd:N.Nodup) {s:Txt} {i:Nat} (h:N[i]? = some s):idxT N s = i:=by
 have h1:=idxT_at (List.mem_of_getElem? h)
 obtain ⟨a,e⟩:=List.getElem?_eq_some_iff.1 h
 obtain ⟨b,f⟩:=List.getElem?_eq_some_iff.1 h1
 exact (List.getElem_inj hd).1 (f.trans e.symm)
theorem idxT_addN {N:List Txt} {s t:Txt} (h:s ∈ N):idxT (addN N t) s = idxT N s:=by
 unfold addN
 split
 ·rfl
 ·exact idxT_app h
theorem idxT_new (N:List Txt) (s:Txt):idxT (addN N s) s = idxT N s:=by
 by_cases h:s ∈ N
 ·exact idxT_addN h
 ·unfold addN
  rw [if_neg (fun e => h (inB_iff.1 e)),idxT_out h]
  unfold idxT
  rw [List.findIdx_append,if_neg (by have:=idxT_out h;unfold idxT at this;omega)]
  simp
def numT (N:List Txt) (s:Txt):Int:=if inB s N = true then (idxT N s:Int) + 1 else 0
theorem look_num {w:World} {r:Nat} {N:List Txt} (h:MapIs w Tryz.prog 9 r (kvN N N.length)) (s:Txt) (hk:TxtOk s) :
  (Instr.lookup 105 (.map (some r)) (.string s) false).run Tryz.prog w = .ok (.int .i64 (numT N s)) w:=by
 unfold numT
 by_cases hs:s ∈ N
 ·rw [if_pos (inB_iff.2 hs)]
  exact h.look_hit str_law Tryz.underlying105 (kvN_in N N.length _ s (idxT_lt hs) (idxT_at hs)) false
 ·rw [if_neg (fun e => hs (inB_iff.1 e))]
  exact h.look_miss str_law Tryz.underlying105 (str_key hk) (fun q hq e => by
   obtain ⟨i,t,hi,ht,rfl⟩:=kvN_mem N N.length q hq
   simp only [Value.string.injEq] at e
   subst e
   exact hs (List.mem_of_getElem? ht)) (by kernel_rfl) false
theorem kvN_app (N M:List Txt):∀ k,k ≤ N.length→kvN (N ++ M) k = kvN N k
 | 0,_ => rfl
 | k + 1,h => by
  unfold kvN
  rw [List.getElem?_append_left (by omega),kvN_app N M k (by omega)]
theorem kvN_push (N:List Txt) (s:Txt):kvN (N ++ [s]) (N.length + 1) = kvN N N.length ++ [(.string s,.int .i64 ((N.length:Int) + 1))]:=by
 rw [kvN,kvN_app N [s] _ (Nat.le_refl _)]
 simp

inductive Ro
 | p | m | n | o | i
 | oo (k:Nat)
 | ii (k:Nat)
structure GrD where
 r:Nat
 nv:Value
 ov:Value
 iv:Value
 fo:Nat→Value
 fi:Nat→Value
def rowV (f:Nat→Value) (n:Nat):List Value:=(List.range n).map f
theorem rowV_succ (f:Nat→Value) (n:Nat):rowV f (n + 1) = rowV f n ++ [f n]:=by simp [rowV,List.range_succ]
theorem rowV_at {f:Nat→Value} {n k:Nat} (h:k < n):(rowV f n)[k]? = some (f k):=by simp [rowV,h]
structure GrI (w:World) (O:Nat→Option Ro) (p:Nat) (N:List Txt) (U V:Nat→List Hp) (cnt:Int) (D:GrD):Prop where
 blk:Blk w p 108 #[D.nv,.map (some D.r),D.ov,D.iv,.int .i64 cnt]
 map:MapIs w Tryz.prog 9 D.r (kvN N N.length)
 rn:w.ownsRow 0 9 1 D.nv N.length (txtCells N)
 ro:w.ownsRow 0 99 1 D.ov N.length (rowV D.fo N.length)
 ri:w.ownsRow 0 99 1 D.iv N.length (rowV D.fi N.length)
 fo:∀ k,w.ownsRow 0 103 2 (D.fo k) (U k).length (hpCells (U k))
 fi:∀ k,w.ownsRow 0 103 2 (D.fi k) (V k).length (hpCells (V k))
 op:O p = some .p
 om:O D.r = some .m
 on:∀ k,D.nv.ownBlock = some k→O k = some .n
 oo:∀ k,D.ov.ownBlock = some k→O k = some .o
 oi:∀ k,D.iv.ownBlock = some k→O k = some .i
 oU:∀ j k,(D.fo j).ownBlock = some k→O k = some (.oo j)
 oV:∀ j k,(D.fi j).ownBlock = some k→O k = some (.ii j)
 lt:∀ k,O k ≠ none→k < w.heap.size
 out:∀ k,N.length ≤ k→D.fo k = .slice none 0 0∧D.fi k = .slice none 0 0
def GrAt (w:World) (F:Nat→Prop) (p:Nat) (N:List Txt) (U V:Nat→List Hp) (cnt:Int):Prop:=∃ O D,GrI w O p N U V cnt D∧F = fun k => O k ≠ none
theorem GrI.upd {w w':World} {O:Nat→Option Ro} {p:Nat} {N:List Txt} {U V:Nat→List Hp} {cnt:Int} {D:GrD} {G:Nat→Prop} (h:GrI w O p N U V cnt D) (hu:Upd G w w') (hd:∀ k,O k ≠ none→¬ G k):GrI w' O p N U V cnt D:=by
 have no:∀ k t,O k = some t→¬ G k:=fun k t e => hd k (by simp [e])
 exact ⟨h.blk.upd hu (no _ _ h.op),h.map.upd hu (no _ _ h.om),ownsRow_upd h.rn hu fun k hk => no _ _ (h.on k hk),ownsRow_upd h.ro hu fun k hk => no _ _ (h.oo k hk),ownsRow_upd h.ri hu fun k hk => no _ _ (h.oi k hk),
  fun j => ownsRow_upd (h.fo j) hu fun k hk => no _ _ (h.oU j k hk),fun j => ownsRow_upd (h.fi j) hu fun k hk => no _ _ (h.oV j k hk),h.op,h.om,h.on,h.oo,h.oi,h.oU,h.oV,fun k hk => Nat.lt_of_lt_of_le (h.lt k hk) hu.size,h.out⟩
theorem GrAt.upd {w w':World} {F G:Nat→Prop} {p:Nat} {N:List Txt} {U V:Nat→List Hp} {cnt:Int} (h:GrAt w F p N U V cnt) (hu:Upd G w w') (hd:∀ k,F k→¬ G k):GrAt w' F p N U V cnt:=by
 obtain ⟨O,D,hs,rfl⟩:=h
 exact ⟨O,D,hs.upd hu hd,rfl⟩
theorem GrAt.lt {w:World} {F:Nat→Prop} {p:Nat} {N:List Txt} {U V:Nat→List Hp} {cnt:Int} (h:GrAt w F p N U V cnt):∀ k,F k→k < w.heap.size:=by
 obtain ⟨O,D,hs,rfl⟩:=h
 exact hs.lt
theorem GrAt.below {w w':World} {F:Nat→Prop} {p:Nat} {N:List Txt} {U V:Nat→List Hp} {cnt:Int} (h:GrAt w F p N U V cnt) (hb:Below w.heap.size w w'):GrAt w' F p N U V cnt:=h.upd (Upd.of_below hb (fun _ => False)) (fun _ _ => id)
def GrNext (w:World) (F:Nat→Prop) (p:Nat) (N:List Txt) (U V:Nat→List Hp) (cnt:Int) (w':World):Prop:=
 ∃ F',GrAt w' F' p N U V cnt∧Upd F w w'∧∀ k,F' k→F k ∨ w.heap.size ≤ k
theorem GrNext.refl {w w':World} {F:Nat→Prop} {p:Nat} {N:List Txt} {U V:Nat→List Hp} {cnt:Int} (h:GrAt w F p N U V cnt) (hb:Below w.heap.size w w'):GrNext w F p N U V cnt w':=
 ⟨F,h.below hb,Upd.of_below hb F,fun _ hk => .inl hk⟩
theorem GrI.grow {w w':World} {O:Nat→Option Ro} {p:Nat} {N:List Txt} {U V:Nat→List Hp} {cnt:Int} {D:GrD} (h:GrI w O p N U V cnt D) (s:Txt) (nv ov iv:Value) (B1 B2:Nat) (hB1:w.heap.size ≤ B1) (hB2:B1 ≤ B2)
  (hu:Upd (fun k => k = p ∨ k = D.r ∨ D.nv.ownBlock = some k ∨ D.ov.ownBlock = some k ∨ D.iv.ownBlock = some k) w w') (hb:Blk w' p 108 #[nv,.map (some D.r),ov,iv,.int .i64 cnt])
  (hm:MapIs w' Tryz.prog 9 D.r (kvN N N.length ++ [(.string s,.int .i64 ((N.length:Int) + 1))]))
  (rn:w'.ownsRow 0 9 1 nv (N.length + 1) (txtCells N ++ [.string s])) (ro:w'.ownsRow 0 99 1 ov (N.length + 1) (rowV D.fo N.length ++ [.slice none 0 0])) (ri:w'.ownsRow 0 99 1 iv (N.length + 1) (rowV D.fi N.length ++ [.slice none 0 0]))
  (pn:∀ k,nv.ownBlock = some k→D.nv.ownBlock = some k ∨ w.heap.size ≤ k∧k < B1) (po:∀ k,ov.ownBlock = some k→D.ov.ownBlock = some k ∨ B1 ≤ k∧k < B2) (pi:∀ k,iv.ownBlock = some k→D.iv.ownBlock = some k ∨ B2 ≤ k) :
  GrNext w (fun k => O k ≠ none) p (N ++ [s]) U V cnt w':=by
 have no:∀ k t,O k = some t→(t = Ro.p→False)→(t = Ro.m→False)→(t = Ro.n→False)→(t = Ro.o→False)→(t = Ro.i→False)→¬ (k = p ∨ k = D.r ∨ D.nv.ownBlock = some k ∨ D.ov.ownBlock = some k ∨ D.iv.ownBlock = some k):=by
  rintro k t e h1 h2 h3 h4 h5 (rfl | rfl | hk | hk | hk)
  ·rw [h.op] at e;injection e with e;exact h1 e.symm
  ·rw [h.om] at e;injection e with e;exact h2 e.symm
  ·rw [h.on k hk] at e;injection e with e;exact h3 e.symm
  ·rw [h.oo k hk] at e;injection e with e;exact h4 e.symm
  ·rw [h.oi k hk] at e;injection e with e;exact h5 e.symm
 have fresh:∀ k,w.heap.size ≤ k→O k = none:=fun k hk => by
  cases e:O k with
  | none => rfl
  | some t => have:=h.lt k (by simp [e]);omega
 have hn:∀ k,nv.ownBlock = some k→O k = some .n ∨ O k = none∧w.heap.size ≤ k∧k < B1:=fun k hk => by
  rcases pn k hk with h1 | ⟨h1,h2⟩
  ·exact .inl (h.on k h1)
  ·exact .inr ⟨fresh k h1,h1,h2⟩
 have ho:∀ k,ov.ownBlock = some k→O k = some .o ∨ O k = none∧B1 ≤ k∧k < B2:=fun k hk => by
  rcases po k hk with h1 | ⟨h1,h2⟩
  ·exact .inl (h.oo k h1)
  ·exact .inr ⟨fresh k (by omega),h1,h2⟩
 have hi:∀ k,iv.ownBlock = some k→O k = some .i ∨ O k = none∧B2 ≤ k:=fun k hk => by
  rcases pi k hk with h1 | h1
  ·exact .inl (h.oi k h1)
  ·exact .inr ⟨fresh k (by omega),h1⟩
 have keep:∀ k t,O k = some t→(t = Ro.n→False)→(t = Ro.o→False)→(t = Ro.i→False)→(if nv.ownBlock = some k then some Ro.n else if ov.ownBlock = some k then some Ro.o else if iv.ownBlock = some k then some Ro.i else O k) = some t:=by
  intro k t e h1 h2 h3
  rw [if_neg,if_neg,if_neg,e]
  ·intro hk
   rcases hi k hk with h4 | h4
   ·rw [e] at h4;injection h4 with h4;exact h3 h4
   ·rw [e] at h4;cases h4.1
  ·intro hk
   rcases ho k hk with h4 | h4
   ·rw [e] at h4;injection h4 with h4;exact h2 h4
   ·rw [e] at h4;cases h4.1
  ·intro hk
   rcases hn k hk with h4 | h4
   ·rw [e] at h4;injection h4 with h4;exact h1 h4
   ·rw [e] at h4;cases h4.1
 refine ⟨fun k => (if nv.ownBlock = some k then some Ro.n else if ov.ownBlock = some k then some Ro.o else if iv.ownBlock = some k then some Ro.i else O k) ≠ none,⟨fun k => if nv.ownBlock = some k then some Ro.n else if ov.ownBlock = some k then some Ro.o else if iv.ownBlock = some k then some Ro.i else O k,⟨D.r,nv,ov,iv,D.fo,D.fi⟩,⟨hb,?_,?_,?_,?_,fun j => ownsRow_upd (h.fo j) hu fun k hk => no _ _ (h.oU j k hk) nofun nofun nofun nofun nofun,fun j => ownsRow_upd (h.fi j) hu fun k hk => no _ _ (h.oV j k hk) nofun nofun nofun nofun nofun,?_,?_,?_,?_,?_,?_,?_,?_,?_⟩,rfl⟩,hu.mono ?_,?_⟩
 ·dsimp only
  rw [List.length_append,List.length_singleton,kvN_push]
  exact hm
 ·dsimp only
  rw [List.length_append,List.length_singleton,txtCells,List.map_append]
  exact rn
 ·dsimp only
  rw [List.length_append,List.length_singleton,rowV_succ,(h.out _ (Nat.le_refl _)).1]
  exact ro
 ·dsimp only
  rw [List.length_append,List.length_singleton,rowV_succ,(h.out _ (Nat.le_refl _)).2]
  exact ri
 ·exact keep p _ h.op nofun nofun nofun
 ·exact keep _ _ h.om nofun nofun nofun
 ·intro k hk
  exact if_pos hk
 ·intro k hk
  (try dsimp only at hk ⊢)
  rw [if_neg,if_pos hk]
  intro e
  rcases hn k e with h1 | ⟨h1,h2,h3⟩ <;> rcases ho k hk with h4 | ⟨h4,h5,h6⟩
  ·rw [h1] at h4;cases h4
  ·rw [h1] at h4;cases h4
  ·rw [h1] at h4;cases h4
  ·omega
 ·intro k hk
  (try dsimp only at hk ⊢)
  rw [if_neg,if_neg,if_pos hk]
  ·intro e
   rcases ho k e with h1 | ⟨h1,h2,h3⟩ <;> rcases hi k hk with h4 | ⟨h4,h5⟩
   ·rw [h1] at h4;cases h4
   ·rw [h1] at h4;cases h4
   ·rw [h1] at h4;cases h4
   ·omega
  ·intro e
   rcases hn k e with h1 | ⟨h1,h2,h3⟩ <;> rcases hi k hk with h4 | ⟨h4,h5⟩
   ·rw [h1] at h4;cases h4
   ·rw [h1] at h4;cases h4
   ·rw [h1] at h4;cases h4
   ·omega
 ·intro j k hk
  exact keep k _ (h.oU j k hk) nofun nofun nofun
 ·intro j k hk
  exact keep k _ (h.oV j k hk) nofun nofun nofun
 ·intro k hk
  (try dsimp only at hk)
  by_cases h1:nv.ownBlock = some k
  ·exact (rn.lt k h1).2
  rw [if_neg h1] at hk
  by_cases h2:ov.ownBlock = some k
  ·exact (ro.lt k h2).2
  rw [if_neg h2] at hk
  by_cases h3:iv.ownBlock = some k
  ·exact (ri.lt k h3).2
  rw [if_neg h3] at hk
  exact Nat.lt_of_lt_of_le (h.lt k hk) hu.size
 ·intro k hk
  rw [List.length_append,List.length_singleton] at hk
  exact h.out k (by omega)
 ·rintro k - (rfl | rfl | hk | hk | hk)
  ·rw [h.op];nofun
  ·rw [h.om];nofun
  ·rw [h.on k hk];nofun
  ·rw [h.oo k hk];nofun
  ·rw [h.oi k hk];nofun
 ·intro k hk
  (try dsimp only at hk ⊢)
  by_cases h1:nv.ownBlock = some k
  ·rcases hn k h1 with h2 | h2
   ·rw [h2];exact .inl nofun
   ·exact .inr h2.2.1
  rw [if_neg h1] at hk
  by_cases h2:ov.ownBlock = some k
  ·rcases ho k h2 with h2 | h2
   ·rw [h2];exact .inl nofun
   ·exact .inr (by omega)
  rw [if_neg h2] at hk
  by_cases h3:iv.ownBlock = some k
  ·rcases hi k h3 with h2 | h2
   ·rw [h2];exact .inl nofun
   ·exact .inr (by omega)
  rw [if_neg h3] at hk
  exact .inl hk
end Go.Proofs.YtddffnonlmfhdaaGreatDoor
namespace Go.Proofs.YtddffnonlmfhdaaGreatDoor
open Go.RowKit
def NodeP (w:World) (F:Nat→Prop) (p:Nat) (N:List Txt) (U V:Nat→List Hp) (cnt:Int) (s:Txt) (e:Ending) (w':World):Prop:=e = .returned (.int .i64 (idxT N s))∧GrNext w F p (addN N s) U V cnt w'
theorem info_hops:(Tryz.prog.info? 99).map (fun i => (i.zero,i.size,i.bytes)) = some (some (.slice none 0 0),1,24):=by kernel_rfl
theorem row_one {w:World} {g:Nat} {t:TypeId} {v:Value} (h:Blk w g t #[v]):RowR w (some ⟨g,0,none⟩) [v]:=fun j u hj => ⟨g,0,rfl,by rw [Nat.zero_add,h.cell j];simpa using hj⟩
theorem node_fin {w w3 V V':World} {O:Nat→Option Ro} {p r n b w2s:Nat} {N:List Txt} {U Vv:Nat→List Hp} {s:Txt} {cnt:Int} {A0 A1 A2 A3 B2 B3:Option Addr} {c0 c1 c2 c3 d2 d3:Nat} {fo fi:Nat→Value}
  (hg:GrI w O p N U Vv cnt ⟨r,.slice A0 N.length c0,.slice A2 N.length c2,.slice A3 N.length c3,fo,fi⟩) (hn:N.length = n)
  (k3:Blk w3 p 108 #[Value.slice A1 (n + 1) c1,.map (some r),Value.slice A2 n c2,Value.slice A3 n c3,.int .i64 cnt]) (m3:MapIs w3 Tryz.prog 9 r (kvN N n ++ [(.string s,.int .i64 ((n:Int) + 1))])) (n3:w3.ownsRow 0 9 1 (.slice A1 (n + 1) c1) (n + 1) (txtCells N ++ [.string s]))
  (ut3:Upd (fun k => k = p ∨ k = r ∨ (Value.slice A0 n c0).ownBlock = some k ∨ (Value.slice A2 n c2).ownBlock = some k ∨ (Value.slice A3 n c3).ownBlock = some k) w w3)
  (pn:∀ k,(Value.slice A1 (n + 1) c1).ownBlock = some k→(Value.slice A0 n c0).ownBlock = some k ∨ w.heap.size ≤ k∧k < w2s) (hw2:w2s ≤ w3.heap.size)
  (h1:(Value.slice A1 (n + 1) c1).ownBlock ≠ some r) (h2:(Value.slice A1 (n + 1) c1).ownBlock ≠ some p) (h3:r ≠ p) (h4:∀ k,(Value.slice A2 n c2).ownBlock = some k→k ≠ p∧k ≠ r∧k < w.heap.size) (h5:∀ k,(Value.slice A3 n c3).ownBlock = some k→k ≠ p∧k ≠ r∧k < w.heap.size) (h6:∀ k,(Value.slice A2 n c2).ownBlock = some k→(Value.slice A3 n c3).ownBlock = some k→False)
  (hj:Upd (fun k => (Value.slice A2 n c2).ownBlock = some k) w3 V) (o2:V.ownsRow 0 99 1 (.slice B2 (n + 1) d2) (n + 1) (rowV fo n ++ [.slice none 0 0])) (p2:∀ k,(Value.slice B2 (n + 1) d2).ownBlock = some k→(Value.slice A2 n c2).ownBlock = some k ∨ b ≤ k) (hb:w3.heap.size ≤ b)
  (o6:V'.ownsRow 0 99 1 (.slice B3 (n + 1) d3) (n + 1) (rowV fi n ++ [.slice none 0 0])) (u6:Upd (fun k => (Value.slice A3 n c3).ownBlock = some k) V V') (p6:∀ k,(Value.slice B3 (n + 1) d3).ownBlock = some k→(Value.slice A3 n c3).ownBlock = some k ∨ V.heap.size ≤ k) :
  Hid (Blk V' p 108 #[Value.slice A1 (n + 1) c1,.map (some r),Value.slice A2 n c2,Value.slice A3 n c3,.int .i64 cnt]∧GrNext w (fun k => O k ≠ none) p (N ++ [s]) U Vv cnt ((V'.setCell ⟨p,2,none⟩ (.slice B2 (n + 1) d2)).setCell ⟨p,3,none⟩ (.slice B3 (n + 1) d3)) ∧
   (Instr.lookup 105 (.map (some r)) (.string s) false).run Tryz.prog ((V'.setCell ⟨p,2,none⟩ (.slice B2 (n + 1) d2)).setCell ⟨p,3,none⟩ (.slice B3 (n + 1) d3)) = .ok (.int .i64 ((n:Int) + 1)) ((V'.setCell ⟨p,2,none⟩ (.slice B2 (n + 1) d2)).setCell ⟨p,3,none⟩ (.slice B3 (n + 1) d3)) ∧
   ((V'.setCell ⟨p,2,none⟩ (.slice B2 (n + 1) d2)).setCell ⟨p,3,none⟩ (.slice B3 (n + 1) d3)).cell? ⟨p,1,none⟩ = some (.map (some r))):=by
 subst hn
 have hs3:=ut3.size
 have hsV:=hj.size
 have hp:=hg.lt p (by rw [hg.op];nofun)
 have nB2:∀ k,(Value.slice B2 (N.length + 1) d2).ownBlock = some k→k ≠ p∧k < V.heap.size∧¬ (Value.slice A3 N.length c3).ownBlock = some k:=fun k hk => by
  refine ⟨?_,(o2.lt k hk).2,?_⟩
  ·rintro rfl
   rcases p2 _ hk with h | h
   ·exact (h4 _ h).1 rfl
   ·omega
  ·intro h
   rcases p2 _ hk with h' | h'
   ·exact h6 _ h' h
   ·have:=(h5 _ h).2.2;omega
 have kV':=(k3.upd hj (fun e => (h4 _ e).1 rfl)).upd u6 (fun e => (h5 _ e).1 rfl)
 have mV':=(m3.upd hj (fun e => (h4 _ e).2.1 rfl)).upd u6 (fun e => (h5 _ e).2.1 rfl)
 have nA1:∀ k,(Value.slice A1 (N.length + 1) c1).ownBlock = some k→¬ (Value.slice A2 N.length c2).ownBlock = some k∧¬ (Value.slice A3 N.length c3).ownBlock = some k:=fun k hk => by
  rcases pn k hk with h | h
  ·have hr:=hg.on k h
   exact ⟨fun e => (by rw [hg.oo k e] at hr;cases hr),fun e => (by rw [hg.oi k e] at hr;cases hr)⟩
  ·exact ⟨fun e => (by have:=(h4 k e).2.2;omega),fun e => (by have:=(h5 k e).2.2;omega)⟩
 have nV':=ownsRow_upd (ownsRow_upd n3 hj (fun k hk => (nA1 k hk).1)) u6 (fun k hk => (nA1 k hk).2)
 have oV':=ownsRow_upd o2 u6 (fun k hk => (nB2 k hk).2.2)
 have nB3:∀ k,(Value.slice B3 (N.length + 1) d3).ownBlock = some k→k ≠ p:=fun k hk => by
  rintro rfl
  rcases p6 _ hk with h | h
  ·exact (h5 _ h).1 rfl
  ·omega
 have us:=((Upd.refl (fun k => k = p) V').setCell (p:=⟨p,2,none⟩) (.inl rfl) (.slice B2 (N.length + 1) d2)).setCell (p:=⟨p,3,none⟩) (.inl rfl) (.slice B3 (N.length + 1) d3)
 have kz:=(kV'.set 2 (.slice B2 (N.length + 1) d2)).set 3 (.slice B3 (N.length + 1) d3)
 have mz:=mV'.upd us h3
 have utz:=((ut3.trans hj (fun k h => .inl (.inr (.inr (.inr (.inl h)))))).trans u6 (fun k h => .inl (.inr (.inr (.inr (.inr h)))))).trans us (fun k h => .inl (.inl h))
 refine Lib.hid ⟨kV',?_,?_,kz.cell 1⟩
 ·exact hg.grow s _ _ _ w3.heap.size V.heap.size hs3 hsV utz kz mz (ownsRow_upd nV' us (fun k hk e => h2 (by rw [hk,e]))) (ownsRow_upd oV' us (fun k hk => (nB2 k hk).1)) (ownsRow_upd o6 us nB3)
   (fun k hk => (pn k hk).imp id fun h => ⟨h.1,by omega⟩) (fun k hk => (p2 k hk).imp id fun h => ⟨by omega,(nB2 k hk).2.1⟩) p6
 ·exact mz.look_hit str_law Tryz.underlying105 (List.mem_append.2 (.inr (List.mem_singleton.2 rfl))) false
theorem node_any (w:World) (F:Nat→Prop) (p:Nat) (N:List Txt) (U V:Nat→List Hp) (cnt:Int) (s:Txt) (h:GrAt w F p N U V cnt) (hk:TxtOk s) (hl:N.length ≤ 1000000) :
  Calls Tryz.prog 45 #[.pointer (some ⟨p,0,none⟩),.string s] w (NodeP w F p N U V cnt s):=by
 by_cases hs:s ∈ N
 ·have hadd:addN N s = N:=by unfold addN;rw [if_pos (inB_iff.2 hs)]
  have FIN:=Lib.hid (show GrNext w F p (addN N s) U V cnt w from by rw [hadd];exact GrNext.refl h (Below.refl _ _))
  obtain ⟨O,D,hg,rfl⟩:=h
  have l0:=look_num hg.map s hk
  have q1:w.cell? ⟨p,1,none⟩ = some (.map (some D.r)):=hg.blk.cell 1
  obtain ⟨k,hk2⟩:∃ k,idxT N s = k:=⟨_,rfl⟩
  have hkl:k ≤ 1000000:=by have:=idxT_lt hs;omega
  have hnum:numT N s = (k:Int) + 1:=by unfold numT;rw [if_pos (inB_iff.2 hs),hk2]
  rw [hnum] at l0
  have hz:((k:Int) + 1 == 0) = false:=by simp;omega
  have hw:IntKind.i64.wrap (((k:Int) + 1) - 1) = (k:Int):=by rw [IntKind.wrap_i64];omega
  have HK:=Lib.hid hk2
  clear hg hnum hadd hs
  go_enter Tryz.func45,Tryz.ntmps45
  go_wp2
  go_ret
  exact ⟨by rw [HK.out];rfl,FIN.out⟩
 ·have hadd:addN N s = N ++ [s]:=by unfold addN;rw [if_neg (fun e => hs (inB_iff.1 e))]
  have hidx:=idxT_out hs
  have hnum:numT N s = 0:=by unfold numT;rw [if_neg (fun e => hs (inB_iff.1 e))]
  obtain ⟨O,⟨r,v0,v2,v3,fo,fi⟩,hg,rfl⟩:=h
  obtain ⟨A0,c0,e0,-,-⟩:=own_form hg.rn
  dsimp only at e0
  subst e0
  obtain ⟨A2,c2,e0,-,-⟩:=own_form hg.ro
  dsimp only at e0
  subst e0
  obtain ⟨A3,c3,e0,-,-⟩:=own_form hg.ri
  dsimp only at e0
  subst e0
  have l0:=look_num hg.map s hk
  rw [hnum] at l0
  have hlt:=hg.lt
  have lt:∀ k t,O k = some t→k < w.heap.size:=fun k t e => hlt k (by simp [e])
  have hom:O r = some .m:=hg.om
  -- the names
  obtain ⟨nv,w1,happ1,own1,up1,pl1⟩:=push_own w 0 26 9 1 16 _ Tryz.underlying26 info_string rfl (by decide) (Value.slice A0 N.length c0) N.length _ hg.rn [.string s] 1 rfl (by simp;rfl) (by omega) (by unfold maxLen;omega) (Nat.zero_le _)
  obtain ⟨A1,c1,rfl,-,-⟩:=own_form own1
  have kb1:=hg.blk.upd up1 (fun e => by have:=hg.on _ e;rw [hg.op] at this;cases this)
  have km1:=hg.map.upd up1 (fun e => by have:=hg.on _ e;rw [hom] at this;cases this)
  have ko1:=ownsRow_upd hg.ro up1 (fun k e f => by have:=hg.on _ f;rw [hg.oo k e] at this;cases this)
  have ki1:=ownsRow_upd hg.ri up1 (fun k e f => by have:=hg.on _ f;rw [hg.oi k e] at this;cases this)
  have np1:(Value.slice A1 (N.length + 1) c1).ownBlock ≠ some p:=fun e => by
   rcases pl1 p e with h | h
   ·have:=hg.on _ h;rw [hg.op] at this;cases this
   ·have:=lt _ _ hg.op;omega
  have nr1:(Value.slice A1 (N.length + 1) c1).ownBlock ≠ some r:=fun e => by
   rcases pl1 _ e with h | h
   ·have:=hg.on _ h;rw [hom] at this;cases this
   ·have:=lt _ _ hom;omega
  have rp:r ≠ p:=fun e => by have:=hom;rw [e,hg.op] at this;cases this
  have no:∀ k,(Value.slice A2 N.length c2).ownBlock = some k→k ≠ p∧k ≠ r∧k < w.heap.size:=fun k hk => ⟨fun e => (by have:=hg.oo k hk;rw [e,hg.op] at this;cases this),fun e => (by have:=hg.oo k hk;rw [e,hom] at this;cases this),lt _ _ (hg.oo k hk)⟩
  have ni:∀ k,(Value.slice A3 N.length c3).ownBlock = some k→k ≠ p∧k ≠ r∧k < w.heap.size:=fun k hk => ⟨fun e => (by have:=hg.oi k hk;rw [e,hg.op] at this;cases this),fun e => (by have:=hg.oi k hk;rw [e,hom] at this;cases this),lt _ _ (hg.oi k hk)⟩
  have noi:∀ k,(Value.slice A2 N.length c2).ownBlock = some k→(Value.slice A3 N.length c3).ownBlock = some k→False:=fun k h1 h2 => by have:=hg.oo k h1;rw [hg.oi k h2] at this;cases this
  have kb2:=kb1.set 0 (Value.slice A1 (N.length + 1) c1)
  have us:=(Upd.refl (fun k => k = p) w1).setCell (p:=⟨p,0,none⟩) (.inl rfl) (Value.slice A1 (N.length + 1) c1)
  have km2:=km1.upd us rp
  have ko2:=ownsRow_upd ko1 us (fun k hk => (no k hk).1)
  have ki2:=ownsRow_upd ki1 us (fun k hk => (ni k hk).1)
  have kn2:=ownsRow_upd own1 us (fun k hk e => np1 (by rw [hk,e]))
  have up2:Upd (fun k => k = p ∨ k = r ∨ (Value.slice A0 N.length c0).ownBlock = some k ∨ (Value.slice A2 N.length c2).ownBlock = some k ∨ (Value.slice A3 N.length c3).ownBlock = some k) w (w1.setCell ⟨p,0,none⟩ (Value.slice A1 (N.length + 1) c1)):=(up1.mono (fun k _ h => .inr (.inr (.inl h)))).trans us (fun k h => .inl (.inl h))
  have bn:∀ k,(Value.slice A1 (N.length + 1) c1).ownBlock = some k→(Value.slice A0 N.length c0).ownBlock = some k ∨ w.heap.size ≤ k∧k < (w1.setCell ⟨p,0,none⟩ (Value.slice A1 (N.length + 1) c1)).heap.size:=fun k hk => by
   rcases pl1 k hk with h | h
   ·exact .inl h
   ·exact .inr ⟨h,(kn2.lt k hk).2⟩
  have q0:w.cell? ⟨p,0,none⟩ = some (Value.slice A0 N.length c0):=hg.blk.cell 0
  have q1:w.cell? ⟨p,1,none⟩ = some (.map (some r)):=hg.blk.cell 1
  have r0:w1.cell? ⟨p,0,none⟩ = some (Value.slice A0 N.length c0):=kb1.cell 0
  have f0:w1.frozen? ⟨p,0,none⟩ = false:=kb1.frozen 0
  have HG:=Lib.hid (And.intro hg (And.intro hadd hidx))
  clear hom
  have HX:=Lib.hid (And.intro (show Blk (w1.setCell ⟨p,0,none⟩ (Value.slice A1 (N.length + 1) c1)) p 108 #[Value.slice A1 (N.length + 1) c1,.map (some r),Value.slice A2 N.length c2,Value.slice A3 N.length c3,.int .i64 cnt] from kb2) (And.intro km2 (And.intro kn2 (And.intro ko2 (And.intro ki2 (And.intro up2 bn))))))
  have HN:=Lib.hid (And.intro nr1 (And.intro np1 (And.intro rp (And.intro no (And.intro ni noi)))))
  clear hg hadd hidx kb2 km2 kn2 ko2 ki2 up2 bn nr1 np1 rp no ni noi kb1 km1 ko1 ki1 us own1 up1 pl1 hnum hlt lt
  obtain ⟨n,hn⟩:∃ n,N.length = n:=⟨_,rfl⟩
  rw [hn] at hl happ1 HX HN q0 r0
  have HL:=Lib.hid hn
  clear hn
  go_enter Tryz.func45,Tryz.ntmps45
  go_upto_region 3 with (at_builtin;refine wpList_append_run rfl _ _ _ rfl rfl rfl happ1 ?_)
  generalize w1.setCell ⟨p,0,none⟩ (Value.slice A1 (n + 1) c1) = W2 at HX ⊢
  clear q0 q1 r0 f0 l0 happ1
  obtain ⟨w3,hrun,hm3,hg3,hz3⟩:=(MapIs.drew HX.out.2.1).put_miss str_law Tryz.underlying105 (.int .i64 ((n:Int) + 1)) (str_key hk) (fun q hq e => by
   obtain ⟨i,t,hi,ht,rfl⟩:=kvN_mem N _ q hq
   simp only [Value.string.injEq] at e
   subst e
   exact hs (List.mem_of_getElem? ht))
  have u3:Upd (fun k => k = r) W2 w3:=(Upd.refl (fun k => k = r) W2).drew.grown hg3 (fun k e => .inl (by injection e with e;exact e.symm))
  have kb3:=HX.out.1.upd u3 (fun e => HN.out.2.2.1 e.symm)
  have kn3:=ownsRow_upd HX.out.2.2.1 u3 (fun k hk e => HN.out.1 (by rw [hk,e]))
  have ko3:=ownsRow_upd HX.out.2.2.2.1 u3 (fun k hk => (HN.out.2.2.2.1 k hk).2.1)
  have ki3:=ownsRow_upd HX.out.2.2.2.2.1 u3 (fun k hk => (HN.out.2.2.2.2.1 k hk).2.1)
  have ut3:=HX.out.2.2.2.2.2.1.trans u3 (fun k h => .inl (.inr (.inl h)))
  have H3:=Lib.hid (And.intro kb3 (And.intro hm3 (And.intro kn3 (And.intro ko3 (And.intro ki3 (And.intro ut3 u3.size))))))
  have hS:W2.drew.cell? ⟨p,0,none⟩ = some (.slice A1 (n + 1) c1)∧W2.drew.cell? ⟨p,1,none⟩ = some (.map (some r)):=⟨HX.out.1.cell 0,HX.out.1.cell 1⟩
  clear hg3 hz3 u3 kb3 hm3 kn3 ko3 ki3 ut3
  refine wp_region_ord (fun W => W.cell? ⟨p,0,none⟩ = some (.slice A1 (n + 1) c1)∧W.cell? ⟨p,1,none⟩ = some (.map (some r))) 10 [(0,true),(1,true),(2,true),(3,true),(4,true),(5,true),(6,true),(7,true),(8,true),(9,true),(10,false)] (by kernel_rfl) (by kernel_rfl) (fun _ _ d _ _ h => by cases d <;> exact h) hS ?_
  generalize W2.drew = V2 at hrun hS ⊢
  iterate 10 (refine ord_takeA rfl ?_;(try simp only [Act.put,gA,gS,gZ,sA,sZ,sS]))
  refine ord_do rfl rfl (fun K hK => ?_)
  go_simp
  refine hK _ _ (fun h => absurd rfl h) ?_
  clear hK K hS hrun V2
  (try simp only [Act.put,gA,gS,gZ,sA,sZ,sS])
  refine ord_done ?_
  go_upto_region 4 with (fail)
  have KS:=Lib.hid (show ∀ V,Upd (fun k => (Value.slice A2 n c2).ownBlock = some k) w3 V→V.cell? ⟨p,2,none⟩ = some (.slice A2 n c2)∧V.cell? ⟨p,3,none⟩ = some (.slice A3 n c3) from fun V hv => by
   have kb:=H3.out.1.upd hv (fun e => (HN.out.2.2.2.1 _ e).1 rfl)
   exact ⟨kb.cell 2,kb.cell 3⟩)
  have hS:w3.drew.cell? ⟨p,2,none⟩ = some (.slice A2 n c2)∧w3.drew.cell? ⟨p,3,none⟩ = some (.slice A3 n c3):=KS.out _ (Upd.refl _ _).drew
  refine wp_region_late (fun W => W.cell? ⟨p,2,none⟩ = some (.slice A2 n c2)∧W.cell? ⟨p,3,none⟩ = some (.slice A3 n c3)) (lateFrom 16) (by kernel_rfl) ?_
  have HJ0:=Lib.hid (show Upd (fun _ => False) w3 w3.drew from (Upd.refl _ w3).drew)
  generalize w3.drew = V0 at HJ0 hS ⊢
  intro hd
  (refine late_takeA (i:=0) rfl hd hS ?_;clear hd;intro hd;(try simp only [Act.put,gA,gZ,sA,sZ,sS]))
  (refine late_take0 (i:=1) (v:=?_) rfl (by kernel_rfl) hd (fun _ _ d _ _ h => by cases d <;> exact h) (by first | with_reducible rfl | kernel_rfl) ?_ ?_;rotate_left;(focus (intro wS;go_simp;(try with_reducible rfl);done));clear hd;intro hd;(try simp only [Act.put,gA,gS,gZ,sA,sZ,sS]))
  (refine late_takeA (i:=2) rfl hd hS ?_;clear hd;intro hd;(try simp only [Act.put,gA,gS,gZ,sA,sZ,sS]))
  (refine late_takeA (i:=3) rfl hd hS ?_;clear hd;intro hd;(try simp only [Act.put,gA,gS,gZ,sA,sZ,sS]))
  (refine late_takeA (i:=4) rfl hd hS ?_;clear hd;intro hd;(try simp only [Act.put,gA,gS,gZ,sA,sZ,sS]))
  (refine late_takeA (i:=5) rfl hd hS ?_;clear hd;intro hd;(try simp only [Act.put,gA,gS,gZ,sA,sZ,sS]))
  (refine late_takeA (i:=8) rfl hd hS ?_;clear hd;intro hd;(try simp only [Act.put,gA,gS,gZ,sA,sZ,sS]))
  (refine late_takeA (i:=9) rfl hd hS ?_;clear hd;intro hd;(try simp only [Act.put,gA,gS,gZ,sA,sZ,sS]))
  (refine late_takeA (i:=10) rfl hd hS ?_;clear hd;intro hd;(try simp only [Act.put,gA,gS,gZ,sA,sZ,sS]))
  (refine late_takeA (i:=11) rfl hd hS ?_;clear hd;intro hd;(try simp only [Act.put,gA,gS,gZ,sA,sZ,sS]))
  clear hS
  refine late_run hd (L:=[6,12]) (by kernel_rfl) (by decide) (fun i hi hd2 => ?_)
  clear hd
  have hd:=hd2
  clear hd2
  simp only [List.mem_cons,List.not_mem_nil,or_false] at hi
  rcases hi with rfl | rfl
  ·skip
   have koV1:=Blk.new V0 99 #[.slice none 0 0]
   have HJ1:=Lib.hid ((HJ0.out).alloc (.cells #[.slice none 0 0] 99))
   have HBo1:=Lib.hid koV1
   clear koV1
   refine late_do (S:=fun W => W.cell? ⟨p,2,none⟩ = some (.slice A2 n c2)∧W.cell? ⟨p,3,none⟩ = some (.slice A3 n c3)) (late:=lateFrom 16) rfl rfl (fun K hK => ?_)
   go_simp
   refine hK _ _ (fun _ _ => KS.out _ (HJ1.out.mono (fun _ _ h => by first | exact h.elim | exact h))) ?_
   clear hK K
   (try simp only [Act.put,gA,gS,gZ,sA,sZ,sS])
   have hS:(V0.alloc (.cells #[.slice none 0 0] 99)).cell? ⟨p,2,none⟩ = some (.slice A2 n c2)∧(V0.alloc (.cells #[.slice none 0 0] 99)).cell? ⟨p,3,none⟩ = some (.slice A3 n c3):=KS.out _ (HJ1.out.mono (fun _ _ h => by first | exact h.elim | exact h))
   generalize V0.alloc (.cells #[.slice none 0 0] 99) = V1 at HJ1 HBo1 hS ⊢
   clear hS
   refine late_run hd (L:=[7,12]) (by kernel_rfl) (by decide) (fun i hi hd2 => ?_)
   clear hd
   have hd:=hd2
   clear hd2
   simp only [List.mem_cons,List.not_mem_nil,or_false] at hi
   rcases hi with rfl | rfl
   ·skip
    obtain ⟨B2,d2,V2,happ,o6,u6,p6⟩:=append_row2 V1 0 106 99 1 24 _ Tryz.underlying106 info_hops rfl (by decide) (by decide) A2 n c2 (rowV fo n) (ownsRow_upd H3.out.2.2.2.1 HJ1.out (fun _ _ h => h)) (some ⟨V0.heap.size,0,none⟩) 1 1 [.slice none 0 0] (row_one HBo1.out) rfl (by simp;rfl) (by omega) (Nat.zero_le _)
    have HJ2:=Lib.hid (show Upd (fun k => (Value.slice A2 n c2).ownBlock = some k) w3 V2 from (HJ1.out.mono (fun _ _ h => h.elim)).trans u6 (fun k h => .inl h))
    have HO:=Lib.hid (And.intro o6 (And.intro p6 (show w3.heap.size ≤ V1.heap.size from HJ1.out.size)))
    clear o6 u6 p6
    refine late_do (S:=fun W => W.cell? ⟨p,2,none⟩ = some (.slice A2 n c2)∧W.cell? ⟨p,3,none⟩ = some (.slice A3 n c3)) (late:=lateFrom 16) rfl rfl (fun K hK => ?_)
    refine wp_append_run _ _ _ rfl rfl rfl happ ?_
    refine hK _ _ (fun _ _ => KS.out _ HJ2.out) ?_
    clear hK K happ
    (try simp only [Act.put,gA,gS,gZ,sA,sZ,sS])
    refine late_run hd (L:=[12]) (by kernel_rfl) (by decide) (fun i hi hd2 => ?_)
    clear hd
    have hd:=hd2
    clear hd2
    simp only [List.mem_cons,List.not_mem_nil,or_false] at hi
    subst hi
    have kiV3:=Blk.new V2 99 #[.slice none 0 0]
    have HJ3:=Lib.hid ((HJ2.out).alloc (.cells #[.slice none 0 0] 99))
    have HO:=Lib.hid (And.intro (HO.out.1.alloc (.cells #[.slice none 0 0] 99)) HO.out.2)
    have HBi3:=Lib.hid kiV3
    clear kiV3
    refine late_do (S:=fun W => W.cell? ⟨p,2,none⟩ = some (.slice A2 n c2)∧W.cell? ⟨p,3,none⟩ = some (.slice A3 n c3)) (late:=lateFrom 16) rfl rfl (fun K hK => ?_)
    go_simp
    refine hK _ _ (fun _ _ => KS.out _ (HJ3.out.mono (fun _ _ h => by first | exact h.elim | exact h))) ?_
    clear hK K
    (try simp only [Act.put,gA,gS,gZ,sA,sZ,sS])
    have hS:(V2.alloc (.cells #[.slice none 0 0] 99)).cell? ⟨p,2,none⟩ = some (.slice A2 n c2)∧(V2.alloc (.cells #[.slice none 0 0] 99)).cell? ⟨p,3,none⟩ = some (.slice A3 n c3):=KS.out _ (HJ3.out.mono (fun _ _ h => by first | exact h.elim | exact h))
    generalize V2.alloc (.cells #[.slice none 0 0] 99) = V3 at HJ3 HBi3 HO hS ⊢
    clear hS
    refine late_run hd (L:=[13]) (by kernel_rfl) (by decide) (fun i hi hd2 => ?_)
    clear hd
    have hd:=hd2
    clear hd2
    simp only [List.mem_cons,List.not_mem_nil,or_false] at hi
    subst hi
    obtain ⟨B3,d3,V4,happ,o6,u6,p6⟩:=append_row2 V3 0 106 99 1 24 _ Tryz.underlying106 info_hops rfl (by decide) (by decide) A3 n c3 (rowV fi n) (ownsRow_upd H3.out.2.2.2.2.1 HJ3.out (fun k h1 h2 => HN.out.2.2.2.2.2 k h2 h1)) (some ⟨V2.heap.size,0,none⟩) 1 1 [.slice none 0 0] (row_one HBi3.out) rfl (by simp;rfl) (by omega) (Nat.zero_le _)
    have HF:=node_fin HG.out.1 HL.out H3.out.1 H3.out.2.1 H3.out.2.2.1 H3.out.2.2.2.2.2.1 HX.out.2.2.2.2.2.2 H3.out.2.2.2.2.2.2 HN.out.1 HN.out.2.1 HN.out.2.2.1 HN.out.2.2.2.1 HN.out.2.2.2.2.1 HN.out.2.2.2.2.2 HJ3.out HO.out.1 HO.out.2.1 HO.out.2.2 o6 u6 p6
    clear o6 u6 p6
    refine late_do (S:=fun W => W.cell? ⟨p,2,none⟩ = some (.slice A2 n c2)∧W.cell? ⟨p,3,none⟩ = some (.slice A3 n c3)) (late:=lateFrom 16) rfl rfl (fun K hK => ?_)
    refine wp_append_run _ _ _ rfl rfl rfl happ ?_
    refine hK _ _ (fun _ _ => ⟨HF.out.1.cell 2,HF.out.1.cell 3⟩) ?_
    clear hK K happ
    (try simp only [Act.put,gA,gS,gZ,sA,sZ,sS])
    have r2:V4.cell? ⟨p,2,none⟩ = some (.slice A2 n c2):=HF.out.1.cell 2
    have f2:V4.frozen? ⟨p,2,none⟩ = false:=HF.out.1.frozen 2
    have kz:=HF.out.1.set 2 (.slice B2 (n + 1) d2)
    have r3:(V4.setCell ⟨p,2,none⟩ (.slice B2 (n + 1) d2)).cell? ⟨p,3,none⟩ = some (.slice A3 n c3):=kz.cell 3
    have f3:(V4.setCell ⟨p,2,none⟩ (.slice B2 (n + 1) d2)).frozen? ⟨p,3,none⟩ = false:=kz.frozen 3
    have FIN:=Lib.hid HF.out.2
    clear kz
    refine late_run hd (L:=[14]) (by kernel_rfl) (by decide) (fun i hi hd2 => ?_)
    clear hd
    have hd:=hd2
    clear hd2
    simp only [List.mem_cons,List.not_mem_nil,or_false] at hi
    subst hi
    refine late_do (S:=fun W => W.cell? ⟨p,2,none⟩ = some (.slice A2 n c2)∧W.cell? ⟨p,3,none⟩ = some (.slice A3 n c3)) (late:=lateFrom 16) rfl rfl (fun K hK => ?_)
    go_simp
    refine hK _ _ (fun h _ => ⟨HF.out.1.cell 2,HF.out.1.cell 3⟩) ?_
    clear hK K
    (try simp only [Act.put,gA,gS,gZ,sA,sZ,sS])
    refine late_run hd (L:=[15]) (by kernel_rfl) (by decide) (fun i hi hd2 => ?_)
    clear hd
    have hd:=hd2
    clear hd2
    simp only [List.mem_cons,List.not_mem_nil,or_false] at hi
    subst hi
    refine late_do (S:=fun W => W.cell? ⟨p,2,none⟩ = some (.slice A2 n c2)∧W.cell? ⟨p,3,none⟩ = some (.slice A3 n c3)) (late:=lateFrom 16) rfl rfl (fun K hK => ?_)
    go_simp
    refine hK _ _ (fun h _ => ⟨HF.out.1.cell 2,HF.out.1.cell 3⟩) ?_
    clear hK K
    (try simp only [Act.put,gA,gS,gZ,sA,sZ,sS])
    refine late_run hd (L:=[16]) (by kernel_rfl) (by decide) (fun i hi hd2 => ?_)
    clear hd
    have hd:=hd2
    clear hd2
    simp only [List.mem_cons,List.not_mem_nil,or_false] at hi
    subst hi
    refine late_do (S:=fun W => W.cell? ⟨p,2,none⟩ = some (.slice A2 n c2)∧W.cell? ⟨p,3,none⟩ = some (.slice A3 n c3)) (late:=lateFrom 16) rfl rfl (fun K hK => ?_)
    go_simp
    refine hK _ _ (fun h _ => absurd h (by decide)) ?_
    clear hK K
    (try simp only [Act.put,gA,gS,gZ,sA,sZ,sS])
    refine late_run hd (L:=[17]) (by kernel_rfl) (by decide) (fun i hi hd2 => ?_)
    clear hd
    have hd:=hd2
    clear hd2
    simp only [List.mem_cons,List.not_mem_nil,or_false] at hi
    subst hi
    refine late_do (S:=fun W => W.cell? ⟨p,2,none⟩ = some (.slice A2 n c2)∧W.cell? ⟨p,3,none⟩ = some (.slice A3 n c3)) (late:=lateFrom 16) rfl rfl (fun K hK => ?_)
    go_simp
    refine hK _ _ (fun h _ => absurd h (by decide)) ?_
    clear hK K
    (try simp only [Act.put,gA,gS,gZ,sA,sZ,sS])
    refine late_run hd (L:=[18]) (by kernel_rfl) (by decide) (fun i hi hd2 => ?_)
    clear hd
    have hd:=hd2
    clear hd2
    simp only [List.mem_cons,List.not_mem_nil,or_false] at hi
    subst hi
    refine late_do (S:=fun W => W.cell? ⟨p,2,none⟩ = some (.slice A2 n c2)∧W.cell? ⟨p,3,none⟩ = some (.slice A3 n c3)) (late:=lateFrom 16) rfl rfl (fun K hK => ?_)
    go_simp
    refine hK _ _ (fun h _ => absurd h (by decide)) ?_
    clear hK K
    (try simp only [Act.put,gA,gS,gZ,sA,sZ,sS])
    refine late_run hd (L:=[19]) (by kernel_rfl) (by decide) (fun i hi hd2 => ?_)
    clear hd
    have hd:=hd2
    clear hd2
    simp only [List.mem_cons,List.not_mem_nil,or_false] at hi
    subst hi
    refine late_do (S:=fun W => W.cell? ⟨p,2,none⟩ = some (.slice A2 n c2)∧W.cell? ⟨p,3,none⟩ = some (.slice A3 n c3)) (late:=lateFrom 16) rfl rfl (fun K hK => ?_)
    go_simp
    refine hK _ _ (fun h _ => absurd h (by decide)) ?_
    clear hK K
    (try simp only [Act.put,gA,gS,gZ,sA,sZ,sS])
    refine late_done (by kernel_rfl) ?_
    generalize (V4.setCell ⟨p,2,none⟩ (.slice B2 (n + 1) d2)).setCell ⟨p,3,none⟩ (.slice B3 (n + 1) d3) = WF at FIN ⊢
    have l0:=FIN.out.2.1
    have q1:WF.cell? ⟨p,1,none⟩ = some (.map (some r)):=FIN.out.2.2
    have hw:IntKind.i64.wrap (((n:Int) + 1) - 1) = (n:Int):=by rw [IntKind.wrap_i64];omega
    clear r2 f2 r3 f3
    go_wp2
    go_ret
    exact ⟨by rw [HG.out.2.2,HL.out];rfl,by rw [HG.out.2.1];exact FIN.out.1⟩
   ·skip
    have kiV2:=Blk.new V1 99 #[.slice none 0 0]
    have koV2:=HBo1.out.alloc (.cells #[.slice none 0 0] 99)
    have HJ2:=Lib.hid ((HJ1.out).alloc (.cells #[.slice none 0 0] 99))
    have HBo2:=Lib.hid koV2
    have HBi2:=Lib.hid kiV2
    clear koV2 kiV2
    refine late_do (S:=fun W => W.cell? ⟨p,2,none⟩ = some (.slice A2 n c2)∧W.cell? ⟨p,3,none⟩ = some (.slice A3 n c3)) (late:=lateFrom 16) rfl rfl (fun K hK => ?_)
    go_simp
    refine hK _ _ (fun _ _ => KS.out _ (HJ2.out.mono (fun _ _ h => by first | exact h.elim | exact h))) ?_
    clear hK K
    (try simp only [Act.put,gA,gS,gZ,sA,sZ,sS])
    have hS:(V1.alloc (.cells #[.slice none 0 0] 99)).cell? ⟨p,2,none⟩ = some (.slice A2 n c2)∧(V1.alloc (.cells #[.slice none 0 0] 99)).cell? ⟨p,3,none⟩ = some (.slice A3 n c3):=KS.out _ (HJ2.out.mono (fun _ _ h => by first | exact h.elim | exact h))
    generalize V1.alloc (.cells #[.slice none 0 0] 99) = V2 at HJ2 HBo2 HBi2 hS ⊢
    clear hS
    refine late_run hd (L:=[7]) (by kernel_rfl) (by decide) (fun i hi hd2 => ?_)
    clear hd
    have hd:=hd2
    clear hd2
    simp only [List.mem_cons,List.not_mem_nil,or_false] at hi
    subst hi
    obtain ⟨B2,d2,V3,happ,o6,u6,p6⟩:=append_row2 V2 0 106 99 1 24 _ Tryz.underlying106 info_hops rfl (by decide) (by decide) A2 n c2 (rowV fo n) (ownsRow_upd H3.out.2.2.2.1 HJ2.out (fun _ _ h => h)) (some ⟨V0.heap.size,0,none⟩) 1 1 [.slice none 0 0] (row_one HBo2.out) rfl (by simp;rfl) (by omega) (Nat.zero_le _)
    have HJ3:=Lib.hid (show Upd (fun k => (Value.slice A2 n c2).ownBlock = some k) w3 V3 from (HJ2.out.mono (fun _ _ h => h.elim)).trans u6 (fun k h => .inl h))
    have HBi3:=Lib.hid (HBi2.out.upd u6 (fun e => by have:=(HN.out.2.2.2.1 _ e).2.2;have:=H3.out.2.2.2.2.2.2;have:=H3.out.2.2.2.2.2.1.size;have:=HJ1.out.size;omega))
    have HO:=Lib.hid (And.intro o6 (And.intro p6 (show w3.heap.size ≤ V2.heap.size from HJ2.out.size)))
    clear o6 u6 p6
    refine late_do (S:=fun W => W.cell? ⟨p,2,none⟩ = some (.slice A2 n c2)∧W.cell? ⟨p,3,none⟩ = some (.slice A3 n c3)) (late:=lateFrom 16) rfl rfl (fun K hK => ?_)
    refine wp_append_run _ _ _ rfl rfl rfl happ ?_
    refine hK _ _ (fun _ _ => KS.out _ HJ3.out) ?_
    clear hK K happ
    (try simp only [Act.put,gA,gS,gZ,sA,sZ,sS])
    refine late_run hd (L:=[13]) (by kernel_rfl) (by decide) (fun i hi hd2 => ?_)
    clear hd
    have hd:=hd2
    clear hd2
    simp only [List.mem_cons,List.not_mem_nil,or_false] at hi
    subst hi
    obtain ⟨B3,d3,V4,happ,o6,u6,p6⟩:=append_row2 V3 0 106 99 1 24 _ Tryz.underlying106 info_hops rfl (by decide) (by decide) A3 n c3 (rowV fi n) (ownsRow_upd H3.out.2.2.2.2.1 HJ3.out (fun k h1 h2 => HN.out.2.2.2.2.2 k h2 h1)) (some ⟨V1.heap.size,0,none⟩) 1 1 [.slice none 0 0] (row_one HBi3.out) rfl (by simp;rfl) (by omega) (Nat.zero_le _)
    have HF:=node_fin HG.out.1 HL.out H3.out.1 H3.out.2.1 H3.out.2.2.1 H3.out.2.2.2.2.2.1 HX.out.2.2.2.2.2.2 H3.out.2.2.2.2.2.2 HN.out.1 HN.out.2.1 HN.out.2.2.1 HN.out.2.2.2.1 HN.out.2.2.2.2.1 HN.out.2.2.2.2.2 HJ3.out HO.out.1 HO.out.2.1 HO.out.2.2 o6 u6 p6
    clear o6 u6 p6
    refine late_do (S:=fun W => W.cell? ⟨p,2,none⟩ = some (.slice A2 n c2)∧W.cell? ⟨p,3,none⟩ = some (.slice A3 n c3)) (late:=lateFrom 16) rfl rfl (fun K hK => ?_)
    refine wp_append_run _ _ _ rfl rfl rfl happ ?_
    refine hK _ _ (fun _ _ => ⟨HF.out.1.cell 2,HF.out.1.cell 3⟩) ?_
    clear hK K happ
    (try simp only [Act.put,gA,gS,gZ,sA,sZ,sS])
    have r2:V4.cell? ⟨p,2,none⟩ = some (.slice A2 n c2):=HF.out.1.cell 2
    have f2:V4.frozen? ⟨p,2,none⟩ = false:=HF.out.1.frozen 2
    have kz:=HF.out.1.set 2 (.slice B2 (n + 1) d2)
    have r3:(V4.setCell ⟨p,2,none⟩ (.slice B2 (n + 1) d2)).cell? ⟨p,3,none⟩ = some (.slice A3 n c3):=kz.cell 3
    have f3:(V4.setCell ⟨p,2,none⟩ (.slice B2 (n + 1) d2)).frozen? ⟨p,3,none⟩ = false:=kz.frozen 3
    have FIN:=Lib.hid HF.out.2
    clear kz
    refine late_run hd (L:=[14]) (by kernel_rfl) (by decide) (fun i hi hd2 => ?_)
    clear hd
    have hd:=hd2
    clear hd2
    simp only [List.mem_cons,List.not_mem_nil,or_false] at hi
    subst hi
    refine late_do (S:=fun W => W.cell? ⟨p,2,none⟩ = some (.slice A2 n c2)∧W.cell? ⟨p,3,none⟩ = some (.slice A3 n c3)) (late:=lateFrom 16) rfl rfl (fun K hK => ?_)
    go_simp
    refine hK _ _ (fun h _ => ⟨HF.out.1.cell 2,HF.out.1.cell 3⟩) ?_
    clear hK K
    (try simp only [Act.put,gA,gS,gZ,sA,sZ,sS])
    refine late_run hd (L:=[15]) (by kernel_rfl) (by decide) (fun i hi hd2 => ?_)
    clear hd
    have hd:=hd2
    clear hd2
    simp only [List.mem_cons,List.not_mem_nil,or_false] at hi
    subst hi
    refine late_do (S:=fun W => W.cell? ⟨p,2,none⟩ = some (.slice A2 n c2)∧W.cell? ⟨p,3,none⟩ = some (.slice A3 n c3)) (late:=lateFrom 16) rfl rfl (fun K hK => ?_)
    go_simp
    refine hK _ _ (fun h _ => ⟨HF.out.1.cell 2,HF.out.1.cell 3⟩) ?_
    clear hK K
    (try simp only [Act.put,gA,gS,gZ,sA,sZ,sS])
    refine late_run hd (L:=[16]) (by kernel_rfl) (by decide) (fun i hi hd2 => ?_)
    clear hd
    have hd:=hd2
    clear hd2
    simp only [List.mem_cons,List.not_mem_nil,or_false] at hi
    subst hi
    refine late_do (S:=fun W => W.cell? ⟨p,2,none⟩ = some (.slice A2 n c2)∧W.cell? ⟨p,3,none⟩ = some (.slice A3 n c3)) (late:=lateFrom 16) rfl rfl (fun K hK => ?_)
    go_simp
    refine hK _ _ (fun h _ => absurd h (by decide)) ?_
    clear hK K
    (try simp only [Act.put,gA,gS,gZ,sA,sZ,sS])
    refine late_run hd (L:=[17]) (by kernel_rfl) (by decide) (fun i hi hd2 => ?_)
    clear hd
    have hd:=hd2
    clear hd2
    simp only [List.mem_cons,List.not_mem_nil,or_false] at hi
    subst hi
    refine late_do (S:=fun W => W.cell? ⟨p,2,none⟩ = some (.slice A2 n c2)∧W.cell? ⟨p,3,none⟩ = some (.slice A3 n c3)) (late:=lateFrom 16) rfl rfl (fun K hK => ?_)
    go_simp
    refine hK _ _ (fun h _ => absurd h (by decide)) ?_
    clear hK K
    (try simp only [Act.put,gA,gS,gZ,sA,sZ,sS])
    refine late_run hd (L:=[18]) (by kernel_rfl) (by decide) (fun i hi hd2 => ?_)
    clear hd
    have hd:=hd2
    clear hd2
    simp only [List.mem_cons,List.not_mem_nil,or_false] at hi
    subst hi
    refine late_do (S:=fun W => W.cell? ⟨p,2,none⟩ = some (.slice A2 n c2)∧W.cell? ⟨p,3,none⟩ = some (.slice A3 n c3)) (late:=lateFrom 16) rfl rfl (fun K hK => ?_)
    go_simp
    refine hK _ _ (fun h _ => absurd h (by decide)) ?_
    clear hK K
    (try simp only [Act.put,gA,gS,gZ,sA,sZ,sS])
    refine late_run hd (L:=[19]) (by kernel_rfl) (by decide) (fun i hi hd2 => ?_)
    clear hd
    have hd:=hd2
    clear hd2
    simp only [List.mem_cons,List.not_mem_nil,or_false] at hi
    subst hi
    refine late_do (S:=fun W => W.cell? ⟨p,2,none⟩ = some (.slice A2 n c2)∧W.cell? ⟨p,3,none⟩ = some (.slice A3 n c3)) (late:=lateFrom 16) rfl rfl (fun K hK => ?_)
    go_simp
    refine hK _ _ (fun h _ => absurd h (by decide)) ?_
    clear hK K
    (try simp only [Act.put,gA,gS,gZ,sA,sZ,sS])
    refine late_done (by kernel_rfl) ?_
    generalize (V4.setCell ⟨p,2,none⟩ (.slice B2 (n + 1) d2)).setCell ⟨p,3,none⟩ (.slice B3 (n + 1) d3) = WF at FIN ⊢
    have l0:=FIN.out.2.1
    have q1:WF.cell? ⟨p,1,none⟩ = some (.map (some r)):=FIN.out.2.2
    have hw:IntKind.i64.wrap (((n:Int) + 1) - 1) = (n:Int):=by rw [IntKind.wrap_i64];omega
    clear r2 f2 r3 f3
    go_wp2
    go_ret
    exact ⟨by rw [HG.out.2.2,HL.out];rfl,by rw [HG.out.2.1];exact FIN.out.1⟩
  ·skip
   have kiV1:=Blk.new V0 99 #[.slice none 0 0]
   have HJ1:=Lib.hid ((HJ0.out).alloc (.cells #[.slice none 0 0] 99))
   have HBi1:=Lib.hid kiV1
   clear kiV1
   refine late_do (S:=fun W => W.cell? ⟨p,2,none⟩ = some (.slice A2 n c2)∧W.cell? ⟨p,3,none⟩ = some (.slice A3 n c3)) (late:=lateFrom 16) rfl rfl (fun K hK => ?_)
   go_simp
   refine hK _ _ (fun _ _ => KS.out _ (HJ1.out.mono (fun _ _ h => by first | exact h.elim | exact h))) ?_
   clear hK K
   (try simp only [Act.put,gA,gS,gZ,sA,sZ,sS])
   have hS:(V0.alloc (.cells #[.slice none 0 0] 99)).cell? ⟨p,2,none⟩ = some (.slice A2 n c2)∧(V0.alloc (.cells #[.slice none 0 0] 99)).cell? ⟨p,3,none⟩ = some (.slice A3 n c3):=KS.out _ (HJ1.out.mono (fun _ _ h => by first | exact h.elim | exact h))
   generalize V0.alloc (.cells #[.slice none 0 0] 99) = V1 at HJ1 HBi1 hS ⊢
   clear hS
   refine late_run hd (L:=[6]) (by kernel_rfl) (by decide) (fun i hi hd2 => ?_)
   clear hd
   have hd:=hd2
   clear hd2
   simp only [List.mem_cons,List.not_mem_nil,or_false] at hi
   subst hi
   have koV2:=Blk.new V1 99 #[.slice none 0 0]
   have kiV2:=HBi1.out.alloc (.cells #[.slice none 0 0] 99)
   have HJ2:=Lib.hid ((HJ1.out).alloc (.cells #[.slice none 0 0] 99))
   have HBi2:=Lib.hid kiV2
   have HBo2:=Lib.hid koV2
   clear kiV2 koV2
   refine late_do (S:=fun W => W.cell? ⟨p,2,none⟩ = some (.slice A2 n c2)∧W.cell? ⟨p,3,none⟩ = some (.slice A3 n c3)) (late:=lateFrom 16) rfl rfl (fun K hK => ?_)
   go_simp
   refine hK _ _ (fun _ _ => KS.out _ (HJ2.out.mono (fun _ _ h => by first | exact h.elim | exact h))) ?_
   clear hK K
   (try simp only [Act.put,gA,gS,gZ,sA,sZ,sS])
   have hS:(V1.alloc (.cells #[.slice none 0 0] 99)).cell? ⟨p,2,none⟩ = some (.slice A2 n c2)∧(V1.alloc (.cells #[.slice none 0 0] 99)).cell? ⟨p,3,none⟩ = some (.slice A3 n c3):=KS.out _ (HJ2.out.mono (fun _ _ h => by first | exact h.elim | exact h))
   generalize V1.alloc (.cells #[.slice none 0 0] 99) = V2 at HJ2 HBi2 HBo2 hS ⊢
   clear hS
   refine late_run hd (L:=[7]) (by kernel_rfl) (by decide) (fun i hi hd2 => ?_)
   clear hd
   have hd:=hd2
   clear hd2
   simp only [List.mem_cons,List.not_mem_nil,or_false] at hi
   subst hi
   obtain ⟨B2,d2,V3,happ,o6,u6,p6⟩:=append_row2 V2 0 106 99 1 24 _ Tryz.underlying106 info_hops rfl (by decide) (by decide) A2 n c2 (rowV fo n) (ownsRow_upd H3.out.2.2.2.1 HJ2.out (fun _ _ h => h)) (some ⟨V1.heap.size,0,none⟩) 1 1 [.slice none 0 0] (row_one HBo2.out) rfl (by simp;rfl) (by omega) (Nat.zero_le _)
   have HJ3:=Lib.hid (show Upd (fun k => (Value.slice A2 n c2).ownBlock = some k) w3 V3 from (HJ2.out.mono (fun _ _ h => h.elim)).trans u6 (fun k h => .inl h))
   have HBi3:=Lib.hid (HBi2.out.upd u6 (fun e => by have:=(HN.out.2.2.2.1 _ e).2.2;have:=H3.out.2.2.2.2.2.2;have:=H3.out.2.2.2.2.2.1.size;have:=HJ0.out.size;omega))
   have HO:=Lib.hid (And.intro o6 (And.intro p6 (show w3.heap.size ≤ V2.heap.size from HJ2.out.size)))
   clear o6 u6 p6
   refine late_do (S:=fun W => W.cell? ⟨p,2,none⟩ = some (.slice A2 n c2)∧W.cell? ⟨p,3,none⟩ = some (.slice A3 n c3)) (late:=lateFrom 16) rfl rfl (fun K hK => ?_)
   refine wp_append_run _ _ _ rfl rfl rfl happ ?_
   refine hK _ _ (fun _ _ => KS.out _ HJ3.out) ?_
   clear hK K happ
   (try simp only [Act.put,gA,gS,gZ,sA,sZ,sS])
   refine late_run hd (L:=[13]) (by kernel_rfl) (by decide) (fun i hi hd2 => ?_)
   clear hd
   have hd:=hd2
   clear hd2
   simp only [List.mem_cons,List.not_mem_nil,or_false] at hi
   subst hi
   obtain ⟨B3,d3,V4,happ,o6,u6,p6⟩:=append_row2 V3 0 106 99 1 24 _ Tryz.underlying106 info_hops rfl (by decide) (by decide) A3 n c3 (rowV fi n) (ownsRow_upd H3.out.2.2.2.2.1 HJ3.out (fun k h1 h2 => HN.out.2.2.2.2.2 k h2 h1)) (some ⟨V0.heap.size,0,none⟩) 1 1 [.slice none 0 0] (row_one HBi3.out) rfl (by simp;rfl) (by omega) (Nat.zero_le _)
   have HF:=node_fin HG.out.1 HL.out H3.out.1 H3.out.2.1 H3.out.2.2.1 H3.out.2.2.2.2.2.1 HX.out.2.2.2.2.2.2 H3.out.2.2.2.2.2.2 HN.out.1 HN.out.2.1 HN.out.2.2.1 HN.out.2.2.2.1 HN.out.2.2.2.2.1 HN.out.2.2.2.2.2 HJ3.out HO.out.1 HO.out.2.1 HO.out.2.2 o6 u6 p6
   clear o6 u6 p6
   refine late_do (S:=fun W => W.cell? ⟨p,2,none⟩ = some (.slice A2 n c2)∧W.cell? ⟨p,3,none⟩ = some (.slice A3 n c3)) (late:=lateFrom 16) rfl rfl (fun K hK => ?_)
   refine wp_append_run _ _ _ rfl rfl rfl happ ?_
   refine hK _ _ (fun _ _ => ⟨HF.out.1.cell 2,HF.out.1.cell 3⟩) ?_
   clear hK K happ
   (try simp only [Act.put,gA,gS,gZ,sA,sZ,sS])
   have r2:V4.cell? ⟨p,2,none⟩ = some (.slice A2 n c2):=HF.out.1.cell 2
   have f2:V4.frozen? ⟨p,2,none⟩ = false:=HF.out.1.frozen 2
   have kz:=HF.out.1.set 2 (.slice B2 (n + 1) d2)
   have r3:(V4.setCell ⟨p,2,none⟩ (.slice B2 (n + 1) d2)).cell? ⟨p,3,none⟩ = some (.slice A3 n c3):=kz.cell 3
   have f3:(V4.setCell ⟨p,2,none⟩ (.slice B2 (n + 1) d2)).frozen? ⟨p,3,none⟩ = false:=kz.frozen 3
   have FIN:=Lib.hid HF.out.2
   clear kz
   refine late_run hd (L:=[14]) (by kernel_rfl) (by decide) (fun i hi hd2 => ?_)
   clear hd
   have hd:=hd2
   clear hd2
   simp only [List.mem_cons,List.not_mem_nil,or_false] at hi
   subst hi
   refine late_do (S:=fun W => W.cell? ⟨p,2,none⟩ = some (.slice A2 n c2)∧W.cell? ⟨p,3,none⟩ = some (.slice A3 n c3)) (late:=lateFrom 16) rfl rfl (fun K hK => ?_)
   go_simp
   refine hK _ _ (fun h _ => ⟨HF.out.1.cell 2,HF.out.1.cell 3⟩) ?_
   clear hK K
   (try simp only [Act.put,gA,gS,gZ,sA,sZ,sS])
   refine late_run hd (L:=[15]) (by kernel_rfl) (by decide) (fun i hi hd2 => ?_)
   clear hd
   have hd:=hd2
   clear hd2
   simp only [List.mem_cons,List.not_mem_nil,or_false] at hi
   subst hi
   refine late_do (S:=fun W => W.cell? ⟨p,2,none⟩ = some (.slice A2 n c2)∧W.cell? ⟨p,3,none⟩ = some (.slice A3 n c3)) (late:=lateFrom 16) rfl rfl (fun K hK => ?_)
   go_simp
   refine hK _ _ (fun h _ => ⟨HF.out.1.cell 2,HF.out.1.cell 3⟩) ?_
   clear hK K
   (try simp only [Act.put,gA,gS,gZ,sA,sZ,sS])
   refine late_run hd (L:=[16]) (by kernel_rfl) (by decide) (fun i hi hd2 => ?_)
   clear hd
   have hd:=hd2
   clear hd2
   simp only [List.mem_cons,List.not_mem_nil,or_false] at hi
   subst hi
   refine late_do (S:=fun W => W.cell? ⟨p,2,none⟩ = some (.slice A2 n c2)∧W.cell? ⟨p,3,none⟩ = some (.slice A3 n c3)) (late:=lateFrom 16) rfl rfl (fun K hK => ?_)
   go_simp
   refine hK _ _ (fun h _ => absurd h (by decide)) ?_
   clear hK K
   (try simp only [Act.put,gA,gS,gZ,sA,sZ,sS])
   refine late_run hd (L:=[17]) (by kernel_rfl) (by decide) (fun i hi hd2 => ?_)
   clear hd
   have hd:=hd2
   clear hd2
   simp only [List.mem_cons,List.not_mem_nil,or_false] at hi
   subst hi
   refine late_do (S:=fun W => W.cell? ⟨p,2,none⟩ = some (.slice A2 n c2)∧W.cell? ⟨p,3,none⟩ = some (.slice A3 n c3)) (late:=lateFrom 16) rfl rfl (fun K hK => ?_)
   go_simp
   refine hK _ _ (fun h _ => absurd h (by decide)) ?_
   clear hK K
   (try simp only [Act.put,gA,gS,gZ,sA,sZ,sS])
   refine late_run hd (L:=[18]) (by kernel_rfl) (by decide) (fun i hi hd2 => ?_)
   clear hd
   have hd:=hd2
   clear hd2
   simp only [List.mem_cons,List.not_mem_nil,or_false] at hi
   subst hi
   refine late_do (S:=fun W => W.cell? ⟨p,2,none⟩ = some (.slice A2 n c2)∧W.cell? ⟨p,3,none⟩ = some (.slice A3 n c3)) (late:=lateFrom 16) rfl rfl (fun K hK => ?_)
   go_simp
   refine hK _ _ (fun h _ => absurd h (by decide)) ?_
   clear hK K
   (try simp only [Act.put,gA,gS,gZ,sA,sZ,sS])
   refine late_run hd (L:=[19]) (by kernel_rfl) (by decide) (fun i hi hd2 => ?_)
   clear hd
   have hd:=hd2
   clear hd2
   simp only [List.mem_cons,List.not_mem_nil,or_false] at hi
   subst hi
   refine late_do (S:=fun W => W.cell? ⟨p,2,none⟩ = some (.slice A2 n c2)∧W.cell? ⟨p,3,none⟩ = some (.slice A3 n c3)) (late:=lateFrom 16) rfl rfl (fun K hK => ?_)
   go_simp
   refine hK _ _ (fun h _ => absurd h (by decide)) ?_
   clear hK K
   (try simp only [Act.put,gA,gS,gZ,sA,sZ,sS])
   refine late_done (by kernel_rfl) ?_
   generalize (V4.setCell ⟨p,2,none⟩ (.slice B2 (n + 1) d2)).setCell ⟨p,3,none⟩ (.slice B3 (n + 1) d3) = WF at FIN ⊢
   have l0:=FIN.out.2.1
   have q1:WF.cell? ⟨p,1,none⟩ = some (.map (some r)):=FIN.out.2.2
   have hw:IntKind.i64.wrap (((n:Int) + 1) - 1) = (n:Int):=by rw [IntKind.wrap_i64];omega
   clear r2 f2 r3 f3
   go_wp2
   go_ret
   exact ⟨by rw [HG.out.2.2,HL.out];rfl,by rw [HG.out.2.1];exact FIN.out.1⟩
end Go.Proofs.YtddffnonlmfhdaaGreatDoor
