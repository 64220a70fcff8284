/- Joint text: WalkF, WalkG. By an AI agent. -/
import Derived.Test.YtkkeocnnecegbaaGreatDoorQ04
import Derived.Lib.SlBytesConst
import Derived.Deep.AppendLies
import Derived.Deep.DeepCutAuto
set_option linter.all false
set_option maxRecDepth 100000
set_option maxHeartbeats 64000000
namespace Go.Proofs.YtkkeocnnecegbaaGreatDoor
open Go.RowKit
theorem info_parts {P:Program} {t:TypeId} {z:Value} {size bytes:Nat} (h:(P.info? t).map (fun i=>(i.zero,i.size,i.bytes))=some (some z,size,bytes)):∃ i,P.info? t=some i∧i.zero=some z∧i.size=size∧i.bytes=bytes:=by
 cases hi:P.info? t with
 | none=>rw [hi] at h; cases h
 | some i=>rw [hi] at h; simp only [Option.map_some,Option.some.injEq,Prod.mk.injEq] at h; exact⟨i,rfl,h.1,h.2.1,h.2.2⟩
theorem J4:(Tryz.prog.info? 51).map (fun i=>(i.zero,i.size,i.bytes))=some (some (.agg #[.int .u8 0,.string ⟨#[]⟩,.int .i64 0,.int .i64 0]),4,40):=by kernel_rfl
theorem own_below {w w':World} {base e size n:Nat} {v:Value} {xs:List Value} (h:w.ownsRow base e size v n xs) (hb:Below w.heap.size w w'):w'.ownsRow base e size v n xs :=
 h.kept (row:=none) ⟨hb.os,hb.tape,hb.output,hb.size,fun j hj _=>hb.block j hj⟩ (by cases hv:v.ownBlock <;> simp)
theorem lV (s:ByteArray) (p n:Nat) (h:s.size=n):(s.extract p n).data.toList=s.data.toList.drop p:=by
 rw [ByteArray.data_extract,Array.toList_extract,List.extract_eq_take_drop,List.take_of_length_le]
 rw [List.length_drop,bB]; omega
theorem I1 (s:ByteArray) (p n:Nat):(s.extract p (p+n)).data.toList=(s.data.toList.drop p).take n:=by
 rw [ByteArray.data_extract,Array.toList_extract,List.extract_eq_take_drop]
 congr 1; omega
theorem Kv (b:Nat) (l:List UInt8) (x:Int) (w:World) (h0:w.cell? ⟨b,0,none⟩=some (.int .i64 0)) (h1:w.cell? ⟨b,1,none⟩=some (.int .i64 (nWord l))) (h2:w.cell? ⟨b,2,none⟩=some (.int .i64 0)) (h3:w.cell? ⟨b,3,none⟩=some (.int .i64 (aQ aU l))) (h4:w.cell? ⟨b,4,none⟩=some (.int .i64 (aV l))) (hv:Lib.maxOf ((lens l).take 5)=x) :
  Calls Tryz.prog 60 #[.slice (some ⟨b,0,none⟩) 5 5] w fun e w'=>e=.returned (.int .i64 x)∧w'=w:=by
 rw [← hv]
 refine Tryz.slices_Max_int b 0 5 5 (lens l) w (by omega) (by simp [lens]) (by omega) (fun j hj=>?_)
 match j,hj with
 | 0,_=>exact h0
 | 1,_=>exact h1
 | 2,_=>exact h2
 | 3,_=>exact h3
 | 4,_=>exact h4
theorem Kw (b:Nat) (l:List UInt8) (y x:Int) (w:World) (h0:w.cell? ⟨b,0,none⟩=some (.int .i64 0)) (h1:w.cell? ⟨b,1,none⟩=some (.int .i64 (nWord l))) (h2:w.cell? ⟨b,2,none⟩=some (.int .i64 0)) (h3:w.cell? ⟨b,3,none⟩=some (.int .i64 (aQ aU l))) (h4:w.cell? ⟨b,4,none⟩=some (.int .i64 (aV l))) (hv:Lib.idxOf ((lens l).take 5) y=x) :
  Calls Tryz.prog 59 #[.slice (some ⟨b,0,none⟩) 5 5,.int .i64 y] w fun e w'=>e=.returned (.int .i64 x)∧w'=w:=by
 rw [← hv]
 refine Tryz.slices_Index_int b 0 5 5 (lens l) y w (by simp [lens]) (by omega) (fun j hj=>?_)
 match j,hj with
 | 0,_=>exact h0
 | 1,_=>exact h1
 | 2,_=>exact h2
 | 3,_=>exact h3
 | 4,_=>exact h4
theorem World.ownsRow.far {B:Nat} {e:TypeId} {k:Nat} {v:Value} {n:Nat} {xs:List Value} {w:World} (h:w.ownsRow B e k v n xs) {g:Nat} (hg:∀ q,v.ownBlock=some q→q<g) (i:Nat) (u:Value):(w.setCell ⟨g,i,none⟩ u).ownsRow B e k v n xs :=
 h.kept (row:=some g) ⟨rfl,rfl,rfl,by simp,fun j hj hne=>Below.heap_setCell w ⟨g,i,none⟩ u j (fun e=>hne (by rw [e]))⟩ (Or.inr (fun e=>by have:=hg g e; omega))
theorem GJ (l:List UInt8) (h:∀ c∈l,aU c=true):Lib.parseUintM 2147483647 0 l=.range∨∃ v,Lib.parseUintM 2147483647 0 l=.ok v∧v≤2147483647:=by
 have hn:=zJ 2147483647 0 l h
 match hp:Lib.parseUintM 2147483647 0 l with
 | .ok v=>exact Or.inr ⟨v,rfl,Lib.parseUintM_le _ l 0 v (Nat.zero_le _) hp⟩
 | .range=>exact Or.inl rfl
 | Lib.NumEnd.syntax=>exact absurd hp hn
theorem Ab (b o c:Nat) (x:UInt8) (v:Bool) (w:World) (h0:w.cell? ⟨b,o+0,none⟩=some (.int .u8 32)) (h1:w.cell? ⟨b,o+1,none⟩=some (.int .u8 9)) (h2:w.cell? ⟨b,o+2,none⟩=some (.int .u8 13)) (h3:w.cell? ⟨b,o+3,none⟩=some (.int .u8 10)) (hv:dQ x=v) :
  Calls Tryz.prog 57 #[.slice (some ⟨b,o,none⟩) 4 c,.int .u8 x.toNat] w fun e w'=>e=.returned (.bool v)∧w=w':=by
 rw [← hv,← Eh]
 refine o8 b o 4 c _ _ w (by omega) (fun i hi=>?_)
 match i,hi with
 | 0,_=>exact h0
 | 1,_=>exact h1
 | 2,_=>exact h2
 | 3,_=>exact h3
def mg (w w':World) (l:List UInt8) (e:Ending):Prop :=
 match fZ l with
 | .ok ts=>∃ v,e=.returned (.tuple #[v,.int .i64 0,.int .i64 0])∧w'.ownsRow w.heap.size 51 4 v ts.length (dW ts)
 | .error (p,er)=>e=.returned (.tuple #[.slice none 0 0,.int .i64 p,.int .i64 er])
theorem Ah (a:Option Addr) (c:Nat) (l:List UInt8) (w:World) (hn:l.length≤65536) (hl:eP w a l) (hw:EW w) :
  Calls Tryz.prog 25 #[.slice a l.length c] w fun e w'=>mg w w' l e∧Below w.heap.size w w':=by
 obtain ⟨i0,hi0,hz0,hz1,hz2⟩:=info_parts J4
 have hconv:=hl.conv c
 have HW:=Lib.hid hw; clear hl hw
 obtain ⟨s,hs⟩:∃ s:ByteArray,s=⟨l.toArray⟩:=⟨_,rfl⟩
 have HS:Hid (s.data.toList=l):=Lib.hid (by rw [hs])
 have hsz:s.size=l.length:=by rw [← HS.out,bB]
 rw [← hs] at hconv
 clear hs
 obtain ⟨n,hLN⟩:∃ n,l.length=n:=⟨_,rfl⟩
 rw [hLN] at hsz hconv hn ⊢
 have HLN:=Lib.hid hLN
 clear hLN
 have kc:=fun (W:World) (C:Array Value) (n c:Nat)=>Lib.run_convert_bytes_const (P:=Tryz.prog) W 30 5 C n c Tryz.underlying30 Tryz.underlying5
 go_enter Tryz.func25,Tryz.ntmps25
 go_wp2_with fail
 go_loopw [5,7] (fun v i wr=>∃ (p f:Nat) (acc:List Tok),p≤n∧i=.int .i64 p∧Below w.heap.size w wr∧Hid (wr.ownsRow w.heap.size 51 4 v acc.length (dW acc))∧Hid (acc.length≤p∧n - p≤f∧lexFrom f (l.drop p) p acc=fZ l)) (fun _ i _=>n - (intOf i).toNat)
 case atStart=>exact⟨0,n,[],Nat.zero_le _,rfl,Below.refl _ _,Lib.hid (World.ownsRow_nil _ _ _ _),Lib.hid ⟨Nat.le_refl _,Nat.le_refl _,by unfold fZ; rw [HLN.out]; rfl⟩⟩
 case round =>
  obtain ⟨p,f,acc,hp,rfl,hb,HOWN,HF⟩:=hrel
  have hacc:=HF.out.1
  by_cases hlt:p<n
  ·have hps:p<s.size:=by omega
   have hex:∃ rest,l.drop p=s[p]'hps :: rest:=by
    have hpl:p<l.length:=by rw [HLN.out]; exact hlt
    refine⟨l.drop (p+1),?_⟩
    rw [List.drop_eq_getElem_cons hpl,← byte_at s p hps]
    simp only [HS.out]
   obtain ⟨rest,hd⟩:=hex
   generalize hc:s[p]'hps=ch at hd
   have HD:=Lib.hid hd
   clear hd
   cases hbl:dQ ch
   ·have HBL:=Lib.hid hbl; clear hbl
    go_wp2_with fail
    refine (Ab _ 0 _ ch false _ (World.cell?_alloc_mark _ _ _ _ 0) (World.cell?_alloc_mark _ _ _ _ 1) (World.cell?_alloc_mark _ _ _ _ 2) (World.cell?_alloc_mark _ _ _ _ 3) HBL.out).mono ?_; rintro e w1 ⟨rfl,rfl⟩
    go_wp2_with fail
    refine (GG (s.extract p n) _ (by rw [← bB,lV s p n hsz,List.length_drop,bB]; omega) (by rw [← bB,lV s p n hsz,List.length_drop,bB]; omega)).mono ?_
    rw [lV s p n hsz,HS.out]
    rintro e w2 ⟨rfl,hb2⟩
    go_wp2_with fail
    have hne:l.drop p≠[]:=by rw [HD.out]; exact List.cons_ne_nil _ _
    obtain ⟨q1,q2,q3,q4,q5⟩:=FP (l.drop p) hne
    obtain ⟨L1,L2,L3,L4⟩:=tok_law ch rest
    rw [← HD.out] at L1 L2 L3 L4
    have hb0:Below w.heap.size w w2:=(hb.alloc hb.size _).trans (hb2.mono (by have:=hb.size; simp; omega))
    have hbo:Below wr.heap.size wr w2:=((Below.refl _ _).alloc (Nat.le_refl _) _).trans (hb2.mono (by simp))
    have NB:=Lib.hid (Blk.new w2 102 #[.int .i64 0,.int .i64 (nWord (l.drop p)),.int .i64 0,.int .i64 (aQ aU (l.drop p)),.int .i64 (aV (l.drop p))])
    have HB:=Lib.hid (hb0.alloc hb0.size (.cells #[.int .i64 0,.int .i64 (nWord (l.drop p)),.int .i64 0,.int .i64 (aQ aU (l.drop p)),.int .i64 (aV (l.drop p))] 102))
    have OWN2:=Lib.hid ((own_below HOWN.out hbo).alloc (.cells #[.int .i64 0,.int .i64 (nWord (l.drop p)),.int .i64 0,.int .i64 (aQ aU (l.drop p)),.int .i64 (aV (l.drop p))] 102))
    clear hb hb2 hb0 hbo HOWN hne
    generalize (w2.alloc (.cells #[.int .i64 0,.int .i64 (nWord (l.drop p)),.int .i64 0,.int .i64 (aQ aU (l.drop p)),.int .i64 (aV (l.drop p))] 102))=W2 at *
    obtain ⟨K,hK⟩:∃ K,K=(pick (l.drop p)).1:=⟨_,rfl⟩
    obtain ⟨N,hN⟩:∃ N,N=(pick (l.drop p)).2:=⟨_,rfl⟩
    rw [← hN] at q1 q2 q4 q5 L1 L2 L3 L4
    rw [← hK] at q2 q3 q4 L3 L4
    have Q1:=Lib.hid q1; have Q2:=Lib.hid q2
    have NK:W2.cell? ⟨w2.heap.size,K,none⟩=some (.int .i64 N):=by
     rw [NB.out.cell K,← q4]
     match K,q3 with
     | 0,_=>rfl
     | 1,_=>rfl
     | 2,_=>rfl
     | 3,_=>rfl
     | 4,_=>rfl
    have q5':p+N≤n:=by rw [List.length_drop,HLN.out] at q5; omega
    obtain ⟨T,hT⟩:∃ T,T=s.extract p (p+N):=⟨_,rfl⟩
    have hTl:T.data.toList=(l.drop p).take N:=by rw [hT,I1,HS.out]
    have HTL:=Lib.hid hTl
    have hTs:T.size=N:=by rw [← bB,hTl,List.length_take,List.length_drop,HLN.out]; omega
    have HT:Hid (T=⟨((l.drop p).take N).toArray⟩):=Lib.hid (by rw [← hTl])
    rw [← hTl] at L2 L3 L4
    have L1:=Lib.hid L1; have L2:=Lib.hid L2; have L3:=Lib.hid L3; have L4:=Lib.hid L4
    clear q1 q2 q4 q5 hK hN hTl
    go_quiet (first
     | (go_at_call 60; refine Calls.quiet_of_same (Kv w2.heap.size (l.drop p) N _ (NB.out.cell 0) (NB.out.cell 1) (NB.out.cell 2) (NB.out.cell 3) (NB.out.cell 4) Q1.out))
     | (go_at_call 59; refine Calls.quiet_of_same (Kw w2.heap.size (l.drop p) N K _ (NB.out.cell 0) (NB.out.cell 1) (NB.out.cell 2) (NB.out.cell 3) (NB.out.cell 4) Q2.out)))
    have HB':=HB.out.trans ((below_drewN W2 nq).mono HB.out.size)
    have NBq:Blk (W2.drewN nq) w2.heap.size 102 _:=NB.out
    have NKq:(W2.drewN nq).cell? ⟨w2.heap.size,K,none⟩=some (.int .i64 N):=NK
    have OWNq:(W2.drewN nq).ownsRow w.heap.size 51 4 u5 acc.length (dW acc):=OWN2.out
    have HBQ:=Lib.hid HB'; have OWNQ:=Lib.hid OWNq
    clear NB HB HB' OWN2 NK NBq OWNq Q1 Q2
    generalize W2.drewN nq=W3 at *
    have hK5:(K:Int)<5:=by omega
    by_cases hN0:N=0
    ·subst hN0
     have hz:((0:Nat):Int)=0:=rfl
     rw [hz] at NKq
     go_wp2_with fail
     go_ret3
     refine⟨?_,HBQ.out⟩
     have hR:=tC HD.out (by rw [HLN.out]; exact HF.out.2.1) (by rw [HLN.out]; omega) HBL.out (by rw [← HD.out]; exact L1.out (by first | trivial | rfl)) HF.out.2.2
     unfold mg
     rw [hR]
     exact rfl
    ·have hNz:((N:Int) == 0)=false:=by simp; omega
     have hlo:(p:Int)≤(p:Int)+(N:Int):=by omega
     have hhi:(p:Int)+(N:Int)≤(n:Int):=by omega
     have HNP:Hid (0<N):=Lib.hid (by omega)
     have HOB:Hid (∀ k,u5.ownBlock=some k→k<W3.heap.size):=Lib.hid (fun k e=>(OWNQ.out.lt k e).2)
     have TB:=Lib.hid (Blk.new W3 51 #[.int .u8 K,.string T,.int .i64 0,.int .i64 p])
     have HB4:=Lib.hid (HBQ.out.alloc HBQ.out.size (.cells #[.int .u8 K,.string T,.int .i64 0,.int .i64 p] 51))
     have OWN4:=Lib.hid (OWNQ.out.alloc (.cells #[.int .u8 K,.string T,.int .i64 0,.int .i64 p] 51))
     go_wp2_with fail
     rw [← hT]
     clear hT
     generalize (W3.alloc (.cells #[.int .u8 K,.string T,.int .i64 0,.int .i64 p] 51))=W4 at *
     refine (lD T _).mono ?_
     cases hisw:gZ T.data.toList
     ·have HIW:=Lib.hid hisw; clear hisw
      rintro e w4 ⟨rfl,rfl⟩
      by_cases hK3:K=3
      ·subst hK3
       have hTpos:0<T.size:=by omega
       have hTpos':(0:Int)<(T.size:Int):=by omega
       obtain ⟨hdg,hnum⟩:=L4.out HNP.out (by first | trivial | rfl)
       have HDG:=Lib.hid hdg
       have t0:W4.cell? ⟨W3.heap.size,0,none⟩=some (.int .u8 3):=TB.out.cell 0
       have t1:W4.cell? ⟨W3.heap.size,1,none⟩=some (.string T):=TB.out.cell 1
       have hew:=HW.out.below HB4.out
       have HEW:=Lib.hid hew
       have hT31:T.size≤1000000:=by omega
       rcases GJ T.data.toList HDG.out with hpu | ⟨v,hpu,hv31⟩
       ·have HPU:=Lib.hid hpu
        have HNUM:Hid (tokAt (l.drop p)=.error 131):=Lib.hid (by rw [hnum,numS,hpu])
        clear hpu hnum hdg hew
        go_wp2_with fail
        refine (AY T (by omega) hT31 HDG.out HPU.out _ HEW.out).mono ?_; rintro e w5 ⟨M,rfl,hb5⟩
        have t0':w5.cell? ⟨W3.heap.size,0,none⟩=some (.int .u8 3):=(TB.out.below hb5).cell 0
        have t1':w5.cell? ⟨W3.heap.size,1,none⟩=some (.string T):=(TB.out.below hb5).cell 1
        go_wp2_with fail
        go_ret3
        refine⟨?_,HB4.out.trans (hb5.mono HB4.out.size)⟩
        have hR:=tC HD.out (by rw [HLN.out]; exact HF.out.2.1) (by rw [HLN.out]; omega) HBL.out (by rw [← HD.out]; exact HNUM.out) HF.out.2.2
        unfold mg
        rw [hR]
        exact rfl
       ·have HPU:=Lib.hid hpu
        have hb10:(ByteArray.toList T == [48])=decide (T.data.toList=[48]):=by rw [ByteArray.toList_eq,Bool.eq_iff_iff]; simp
        obtain ⟨tr,htr⟩:=p9 T hTpos
        generalize hT0:T[0]'hTpos=tc at htr
        have hns:numS T.data.toList=if T.data.toList≠[48]∧T.data.toList.head? = some 48 then none else some (v:Int):=by rw [numS,hpu]
        clear hpu hdg hew
        by_cases hone:T.data.toList=[48]
        ·have HNUM:Hid (tokAt (l.drop p)=.ok (3,N,(v:Int))):=Lib.hid (by rw [hnum,hns,if_neg (by simp [hone])])
         rw [decide_eq_true hone] at hb10
         clear hnum hns htr hone
         have hvi:(v:Int)≤2147483647:=by omega
         have hvj:(v:Int)≤9223372036854775807:=by omega
         go_wp2_with fail
         refine (tJ T v (by omega) hT31 HDG.out HPU.out _).mono ?_; rintro e w5 ⟨rfl,hb5⟩
         have t0':w5.cell? ⟨W3.heap.size,0,none⟩=some (.int .u8 3):=(TB.out.below hb5).cell 0
         have t1':w5.cell? ⟨W3.heap.size,1,none⟩=some (.string T):=(TB.out.below hb5).cell 1
         have t2':w5.cell? ⟨W3.heap.size,2,none⟩=some (.int .i64 0):=(TB.out.below hb5).cell 2
         have t2f:=(TB.out.below hb5).free 2
         have TB5:=Lib.hid ((TB.out.below hb5).put 2 (.int .i64 v):Blk (w5.setCell ⟨W3.heap.size,2,none⟩ (.int .i64 v)) W3.heap.size 51 #[.int .u8 3,.string T,.int .i64 v,.int .i64 p])
         have HB5:=Lib.hid ((HB4.out.trans (hb5.mono HB4.out.size)).setCell (p:=⟨W3.heap.size,2,none⟩) (show w.heap.size≤W3.heap.size from HBQ.out.size) (.int .i64 v))
         have OWN5:=Lib.hid (World.ownsRow.far (own_below OWN4.out hb5) (g:=W3.heap.size) HOB.out 2 (.int .i64 v))
         clear HB4 OWN4 HBQ OWNQ NKq TB
         go_upto_region 21 with fail
         clear t0 t1 t0' t1' t2' t2f hb5
         generalize (w5.setCell ⟨W3.heap.size,2,none⟩ (.int .i64 v))=W5 at *
         have t0:W5.cell? ⟨W3.heap.size,0,none⟩=some (.int .u8 3):=TB5.out.cell 0
         have t1:W5.cell? ⟨W3.heap.size,1,none⟩=some (.string T):=TB5.out.cell 1
         have t2:W5.cell? ⟨W3.heap.size,2,none⟩=some (.int .i64 v):=TB5.out.cell 2
         have t3:W5.cell? ⟨W3.heap.size,3,none⟩=some (.int .i64 p):=TB5.out.cell 3
         go_wp2_with (at_builtin; refine wpList_append_own _ rfl _ _ 45 rfl w.heap.size 51 i0 (.agg #[.int .u8 0,.string ⟨#[]⟩,.int .i64 0,.int .i64 0]) 4 40 Tryz.underlying45 hi0 hz0 hz1 hz2 rfl (by decide) _ _ _ rfl (OWN5.out.alloc _) ⟨W5.heap.size,0,none⟩ 1 1 [.int .u8 3,.string T,.int .i64 v,.int .i64 p] rfl rfl (World.news_of_block (cs:=#[.int .u8 3,.string T,.int .i64 v,.int .i64 p]) (t:=51) (fr:=(0,0)) (heap_alloc_new W5 _)) (by simp [Value.oneCell']) (by unfold maxLen; omega) (by omega) ?_ ?_)
         ·have:=HB5.out.size; simp; omega
         intro v' w6 hown6 hgrow _
         have t1':w6.cell? ⟨W3.heap.size,1,none⟩=some (.string T):=by
          have e:=hgrow.5 W3.heap.size (by have:=TB5.out.lt; simp only [World.size_alloc]; omega) (fun e=>by have:=HOB.out _ e.symm; omega)
          have tb:Blk w6 W3.heap.size 51 _:=e.trans ((TB5.out.alloc _))
          exact tb.cell 1
         go_wp2_with fail
         go_roundw
         case rel =>
          obtain ⟨f',hf1,hf2⟩:=qi HD.out (by rw [HLN.out]; exact HF.out.2.1) (by rw [HLN.out]; omega) HBL.out HNP.out (by rw [← HD.out]; exact HNUM.out) HF.out.2.2
          refine⟨p+N,f',acc ++ [⟨_,(l.drop p).take N,_,p⟩],by omega,by go_num,(HB5.out.alloc HB5.out.size _).grown hgrow (by have:=HB5.out.size; simp; omega) (fun q e=>(OWN5.out.lt q e).1),Lib.hid ?_,Lib.hid ⟨?_,?_,hf2⟩⟩
          ·rw [iJ,List.length_append]; rw [HT.out] at hown6; exact hown6
          ·simp; omega
          ·rw [HLN.out] at hf1; exact hf1
         case measure=>simp [intOf]; omega
        ·by_cases hc48:tc=48
         ·have HNUM:Hid (tokAt (l.drop p)=.error 131):=Lib.hid (by rw [hnum,hns,if_pos ⟨hone,by rw [htr,hc48]; rfl⟩])
          rw [decide_eq_false hone] at hb10
          subst hc48
          clear hnum hns htr hone
          have hvi:(v:Int)≤2147483647:=by omega
          have hvj:(v:Int)≤9223372036854775807:=by omega
          go_wp2_with fail
          refine (tJ T v (by omega) hT31 HDG.out HPU.out _).mono ?_; rintro e w5 ⟨rfl,hb5⟩
          have t0':w5.cell? ⟨W3.heap.size,0,none⟩=some (.int .u8 3):=(TB.out.below hb5).cell 0
          have t1':w5.cell? ⟨W3.heap.size,1,none⟩=some (.string T):=(TB.out.below hb5).cell 1
          have t2':w5.cell? ⟨W3.heap.size,2,none⟩=some (.int .i64 0):=(TB.out.below hb5).cell 2
          have t2f:=(TB.out.below hb5).free 2
          go_wp2_with fail
          go_ret3
          refine⟨?_,HB4.out.trans (hb5.mono HB4.out.size)⟩
          have hR:=tC HD.out (by rw [HLN.out]; exact HF.out.2.1) (by rw [HLN.out]; omega) HBL.out (by rw [← HD.out]; exact HNUM.out) HF.out.2.2
          unfold mg
          rw [hR]
          exact rfl
         ·have HNUM:Hid (tokAt (l.drop p)=.ok (3,N,(v:Int))):=Lib.hid (by rw [hnum,hns,if_neg (by rw [htr]; simp [hc48])])
          rw [decide_eq_false hone] at hb10
          have htc:((tc.toNat:Int) == 48)=false:=by
           rw [beq_eq_false_iff_ne]
           intro e; apply hc48; rw [← UInt8.toNat_inj]; simp; omega
          clear hnum hns htr hone
          have hvi:(v:Int)≤2147483647:=by omega
          have hvj:(v:Int)≤9223372036854775807:=by omega
          go_wp2_with fail
          refine (tJ T v (by omega) hT31 HDG.out HPU.out _).mono ?_; rintro e w5 ⟨rfl,hb5⟩
          have t0':w5.cell? ⟨W3.heap.size,0,none⟩=some (.int .u8 3):=(TB.out.below hb5).cell 0
          have t1':w5.cell? ⟨W3.heap.size,1,none⟩=some (.string T):=(TB.out.below hb5).cell 1
          have t2':w5.cell? ⟨W3.heap.size,2,none⟩=some (.int .i64 0):=(TB.out.below hb5).cell 2
          have t2f:=(TB.out.below hb5).free 2
          have TB5:=Lib.hid ((TB.out.below hb5).put 2 (.int .i64 v):Blk (w5.setCell ⟨W3.heap.size,2,none⟩ (.int .i64 v)) W3.heap.size 51 #[.int .u8 3,.string T,.int .i64 v,.int .i64 p])
          have HB5:=Lib.hid ((HB4.out.trans (hb5.mono HB4.out.size)).setCell (p:=⟨W3.heap.size,2,none⟩) (show w.heap.size≤W3.heap.size from HBQ.out.size) (.int .i64 v))
          have OWN5:=Lib.hid (World.ownsRow.far (own_below OWN4.out hb5) (g:=W3.heap.size) HOB.out 2 (.int .i64 v))
          clear HB4 OWN4 HBQ OWNQ NKq TB
          go_upto_region 21 with fail
          clear t0 t1 t0' t1' t2' t2f hb5
          generalize (w5.setCell ⟨W3.heap.size,2,none⟩ (.int .i64 v))=W5 at *
          have t0:W5.cell? ⟨W3.heap.size,0,none⟩=some (.int .u8 3):=TB5.out.cell 0
          have t1:W5.cell? ⟨W3.heap.size,1,none⟩=some (.string T):=TB5.out.cell 1
          have t2:W5.cell? ⟨W3.heap.size,2,none⟩=some (.int .i64 v):=TB5.out.cell 2
          have t3:W5.cell? ⟨W3.heap.size,3,none⟩=some (.int .i64 p):=TB5.out.cell 3
          go_wp2_with (at_builtin; refine wpList_append_own _ rfl _ _ 45 rfl w.heap.size 51 i0 (.agg #[.int .u8 0,.string ⟨#[]⟩,.int .i64 0,.int .i64 0]) 4 40 Tryz.underlying45 hi0 hz0 hz1 hz2 rfl (by decide) _ _ _ rfl (OWN5.out.alloc _) ⟨W5.heap.size,0,none⟩ 1 1 [.int .u8 3,.string T,.int .i64 v,.int .i64 p] rfl rfl (World.news_of_block (cs:=#[.int .u8 3,.string T,.int .i64 v,.int .i64 p]) (t:=51) (fr:=(0,0)) (heap_alloc_new W5 _)) (by simp [Value.oneCell']) (by unfold maxLen; omega) (by omega) ?_ ?_)
          ·have:=HB5.out.size; simp; omega
          intro v' w6 hown6 hgrow _
          have t1':w6.cell? ⟨W3.heap.size,1,none⟩=some (.string T):=by
           have e:=hgrow.5 W3.heap.size (by have:=TB5.out.lt; simp only [World.size_alloc]; omega) (fun e=>by have:=HOB.out _ e.symm; omega)
           have tb:Blk w6 W3.heap.size 51 _:=e.trans ((TB5.out.alloc _))
           exact tb.cell 1
          go_wp2_with fail
          go_roundw
          case rel =>
           obtain ⟨f',hf1,hf2⟩:=qi HD.out (by rw [HLN.out]; exact HF.out.2.1) (by rw [HLN.out]; omega) HBL.out HNP.out (by rw [← HD.out]; exact HNUM.out) HF.out.2.2
           refine⟨p+N,f',acc ++ [⟨_,(l.drop p).take N,_,p⟩],by omega,by go_num,(HB5.out.alloc HB5.out.size _).grown hgrow (by have:=HB5.out.size; simp; omega) (fun q e=>(OWN5.out.lt q e).1),Lib.hid ?_,Lib.hid ⟨?_,?_,hf2⟩⟩
           ·rw [iJ,List.length_append]; rw [HT.out] at hown6; exact hown6
           ·simp; omega
           ·rw [HLN.out] at hf1; exact hf1
          case measure=>simp [intOf]; omega
      ·have hK3':((K:Int) == 3)=false:=by simp; omega
       have HB5:=HB4; have OWN5:=OWN4; have TB5:=TB
       clear HB4 OWN4 HBQ OWNQ NKq
       have t0:W4.cell? ⟨W3.heap.size,0,none⟩=some (.int .u8 K):=TB5.out.cell 0
       have t1:W4.cell? ⟨W3.heap.size,1,none⟩=some (.string T):=TB5.out.cell 1
       have t2:W4.cell? ⟨W3.heap.size,2,none⟩=some (.int .i64 0):=TB5.out.cell 2
       have t3:W4.cell? ⟨W3.heap.size,3,none⟩=some (.int .i64 p):=TB5.out.cell 3
       go_wp2_with (at_builtin; refine wpList_append_own _ rfl _ _ 45 rfl w.heap.size 51 i0 (.agg #[.int .u8 0,.string ⟨#[]⟩,.int .i64 0,.int .i64 0]) 4 40 Tryz.underlying45 hi0 hz0 hz1 hz2 rfl (by decide) _ _ _ rfl (OWN5.out.alloc _) ⟨W4.heap.size,0,none⟩ 1 1 [.int .u8 K,.string T,.int .i64 0,.int .i64 p] rfl rfl (World.news_of_block (cs:=#[.int .u8 K,.string T,.int .i64 0,.int .i64 p]) (t:=51) (fr:=(0,0)) (heap_alloc_new W4 _)) (by simp [Value.oneCell']) (by unfold maxLen; omega) (by omega) ?_ ?_)
       ·have:=HB5.out.size; simp; omega
       intro v' w6 hown6 hgrow _
       have t1':w6.cell? ⟨W3.heap.size,1,none⟩=some (.string T):=by
        have e:=hgrow.5 W3.heap.size (by have:=TB5.out.lt; simp only [World.size_alloc]; omega) (fun e=>by have:=HOB.out _ e.symm; omega)
        have tb:Blk w6 W3.heap.size 51 _:=e.trans ((TB5.out.alloc _))
        exact tb.cell 1
       go_wp2_with fail
       go_roundw
       case rel =>
        obtain ⟨f',hf1,hf2⟩:=qi HD.out (by rw [HLN.out]; exact HF.out.2.1) (by rw [HLN.out]; omega) HBL.out HNP.out (by rw [← HD.out]; exact L3.out HNP.out HIW.out hK3) HF.out.2.2
        refine⟨p+N,f',acc ++ [⟨_,(l.drop p).take N,_,p⟩],by omega,by go_num,(HB5.out.alloc HB5.out.size _).grown hgrow (by have:=HB5.out.size; simp; omega) (fun q e=>(OWN5.out.lt q e).1),Lib.hid ?_,Lib.hid ⟨?_,?_,hf2⟩⟩
        ·rw [iJ,List.length_append]; rw [HT.out] at hown6; exact hown6
        ·simp; omega
        ·rw [HLN.out] at hf1; exact hf1
       case measure=>simp [intOf]; omega
     ·have HIW:=Lib.hid hisw; clear hisw
      rintro e w4 ⟨rfl,rfl⟩
      have t00:W4.cell? ⟨W3.heap.size,0,none⟩=some (.int .u8 K):=TB.out.cell 0
      have t0f:=TB.out.free 0
      have TB5:=Lib.hid (TB.out.put 0 (.int .u8 2):Blk (W4.setCell ⟨W3.heap.size,0,none⟩ (.int .u8 2)) W3.heap.size 51 #[.int .u8 2,.string T,.int .i64 0,.int .i64 p])
      have HB5:=Lib.hid (HB4.out.setCell (p:=⟨W3.heap.size,0,none⟩) (show w.heap.size≤W3.heap.size from HBQ.out.size) (.int .u8 2))
      have OWN5:=Lib.hid (World.ownsRow.far OWN4.out (g:=W3.heap.size) HOB.out 0 (.int .u8 2))
      clear HB4 OWN4 HBQ OWNQ NKq
      go_upto_region 21 with fail
      clear t00 t0f TB
      generalize (W4.setCell ⟨W3.heap.size,0,none⟩ (.int .u8 2))=W5 at *
      have t0:W5.cell? ⟨W3.heap.size,0,none⟩=some (.int .u8 2):=TB5.out.cell 0
      have t1:W5.cell? ⟨W3.heap.size,1,none⟩=some (.string T):=TB5.out.cell 1
      have t2:W5.cell? ⟨W3.heap.size,2,none⟩=some (.int .i64 0):=TB5.out.cell 2
      have t3:W5.cell? ⟨W3.heap.size,3,none⟩=some (.int .i64 p):=TB5.out.cell 3
      go_wp2_with (at_builtin; refine wpList_append_own _ rfl _ _ 45 rfl w.heap.size 51 i0 (.agg #[.int .u8 0,.string ⟨#[]⟩,.int .i64 0,.int .i64 0]) 4 40 Tryz.underlying45 hi0 hz0 hz1 hz2 rfl (by decide) _ _ _ rfl (OWN5.out.alloc _) ⟨W5.heap.size,0,none⟩ 1 1 [.int .u8 2,.string T,.int .i64 0,.int .i64 p] rfl rfl (World.news_of_block (cs:=#[.int .u8 2,.string T,.int .i64 0,.int .i64 p]) (t:=51) (fr:=(0,0)) (heap_alloc_new W5 _)) (by simp [Value.oneCell']) (by unfold maxLen; omega) (by omega) ?_ ?_)
      ·have:=HB5.out.size; simp; omega
      intro v' w6 hown6 hgrow _
      have t1':w6.cell? ⟨W3.heap.size,1,none⟩=some (.string T):=by
       have e:=hgrow.5 W3.heap.size (by have:=TB5.out.lt; simp only [World.size_alloc]; omega) (fun e=>by have:=HOB.out _ e.symm; omega)
       have tb:Blk w6 W3.heap.size 51 _:=e.trans ((TB5.out.alloc _))
       exact tb.cell 1
      go_wp2_with fail
      go_roundw
      case rel =>
       obtain ⟨f',hf1,hf2⟩:=qi HD.out (by rw [HLN.out]; exact HF.out.2.1) (by rw [HLN.out]; omega) HBL.out HNP.out (by rw [← HD.out]; exact L2.out HNP.out HIW.out) HF.out.2.2
       refine⟨p+N,f',acc ++ [⟨_,(l.drop p).take N,_,p⟩],by omega,by go_num,(HB5.out.alloc HB5.out.size _).grown hgrow (by have:=HB5.out.size; simp; omega) (fun q e=>(OWN5.out.lt q e).1),Lib.hid ?_,Lib.hid ⟨?_,?_,hf2⟩⟩
       ·rw [iJ,List.length_append]; rw [HT.out] at hown6; exact hown6
       ·simp; omega
       ·rw [HLN.out] at hf1; exact hf1
      case measure=>simp [intOf]; omega
   ·have HBL:=Lib.hid hbl; clear hbl
    go_wp2_with fail
    refine (Ab _ 0 _ ch true _ (World.cell?_alloc_mark _ _ _ _ 0) (World.cell?_alloc_mark _ _ _ _ 1) (World.cell?_alloc_mark _ _ _ _ 2) (World.cell?_alloc_mark _ _ _ _ 3) HBL.out).mono ?_; rintro e w1 ⟨rfl,rfl⟩
    go_wp2_with fail
    go_roundw
    case rel =>
     obtain ⟨f',hf1,hf2⟩:=I5 HD.out (by rw [HLN.out]; exact HF.out.2.1) (by rw [HLN.out]; omega) HBL.out HF.out.2.2
     refine⟨p+1,f',acc,by omega,by go_num,hb.alloc hb.size _,Lib.hid (HOWN.out.alloc _),Lib.hid ⟨by omega,by rw [HLN.out] at hf1; exact hf1,hf2⟩⟩
    case measure=>simp [intOf]; omega
  ·have hR:=Lib.hid (I8 (by rw [HLN.out]; omega) HF.out.2.2)
   go_wp2_with (at_builtin; refine wpList_append_own _ rfl _ _ 45 rfl w.heap.size 51 i0 (.agg #[.int .u8 0,.string ⟨#[]⟩,.int .i64 0,.int .i64 0]) 4 40 Tryz.underlying45 hi0 hz0 hz1 hz2 rfl (by decide) _ _ _ rfl (HOWN.out.alloc _) ⟨wr.heap.size,0,none⟩ 1 1 [.int .u8 5,.string ⟨#[]⟩,.int .i64 0,.int .i64 n] rfl rfl (World.news_of_block (cs:=#[.int .u8 5,.string ⟨#[]⟩,.int .i64 0,.int .i64 n]) (t:=51) (fr:=(0,0)) (heap_alloc_new wr _)) (by simp [Value.oneCell']) (by unfold maxLen; omega) (by omega) ?_ ?_)
   ·have:=hb.size; simp; omega
   intro v' w6 hown6 hgrow _
   go_wp2_with fail
   go_ret3
   refine⟨?_,(hb.alloc hb.size _).grown hgrow (by have:=hb.size; simp; omega) (fun q e=>(HOWN.out.lt q e).1)⟩
   unfold mg
   rw [hR.out]
   refine⟨v',rfl,?_⟩
   rw [iJ,List.length_append]
   obtain rfl:p=n:=by omega
   exact hown6
end Go.Proofs.YtkkeocnnecegbaaGreatDoor
namespace Go.Proofs.YtkkeocnnecegbaaGreatDoor
open Go.RowKit
def lS (w:World) (b o:Nat) (t:Tok):Prop:=w.cell? ⟨b,o,none⟩=some (.int .u8 t.kind)∧w.cell? ⟨b,o+1,none⟩=some (.string ⟨t.text.toArray⟩)∧w.cell? ⟨b,o+2,none⟩=some (.int .i64 t.n)∧w.cell? ⟨b,o+3,none⟩=some (.int .i64 t.at')
def Ia (w:World) (a:Option Addr) (ts:List Tok):Prop:=(ts=[]∧True)∨∃ b o,a=some ⟨b,o,none⟩∧∀ i t,ts[i]? = some t→lS w b (o+i*4) t
theorem bJ {w:World} {base e size n:Nat} {v:Value} {xs:List Value} (h:w.ownsRow base e size v n xs):∃ A c,v=.slice A n c:=by
 rcases h.2 with ⟨rfl,rfl⟩ | ⟨g,cap,_,rfl,_⟩
 ·exact⟨_,_,rfl⟩
 ·exact⟨_,_,rfl⟩
theorem Ia.l6 {w:World} {base:Nat} {A:Option Addr} {c:Nat} {e:TypeId} {ts:List Tok} (h:w.ownsRow base e 4 (.slice A ts.length c) ts.length (dW ts)):Ia w A ts:=by
 by_cases h0:ts=[]
 ·exact Or.inl ⟨h0,trivial⟩
 ·have hpos:0<ts.length:=by cases ts with | nil=>exact absurd rfl h0 | cons _ _=>simp
  obtain ⟨g,cap,hv,_,hlt⟩:=h.form hpos
  injection hv with hA hn hc
  subst hA hc
  refine Or.inr ⟨g,0,rfl,fun i t ht=>?_⟩
  obtain ⟨hi,rfl⟩:=List.getElem?_eq_some_iff.1 ht
  obtain ⟨h0,h1,h2,h3⟩:=yJ ts i hi
  rw [Nat.zero_add]
  exact⟨(h.cellAt _ (by omega)).trans h0,(h.cellAt _ (by omega)).trans h1,(h.cellAt _ (by omega)).trans h2,(h.cellAt _ (by omega)).trans h3⟩
def fA (l:List (List UInt8)):List Value:=l.map fun x=>.string ⟨x.toArray⟩
theorem Ie:(Tryz.prog.info? 9).map (fun i=>(i.zero,i.size,i.bytes))=some (some (.string ⟨#[]⟩),1,16):=by kernel_rfl
theorem qb {w:World} {base e size n:Nat} {g cap:Nat} {xs:List Value} (h:w.ownsRow base e size (.slice (some ⟨g,0,none⟩) n cap) n xs):n≤cap:=by
 rcases h.2 with ⟨h',_⟩ | ⟨g',cap',cur,h',_,_,hnc,_⟩
 ·simp at h'
 ·simp at h'
  obtain ⟨_,rfl⟩:=h'
  exact hnc
theorem Fj (l:List (List UInt8)):fA l=(l.map fun x=>(⟨x.toArray⟩:ByteArray)).map Value.string:=by simp [fA]
theorem J6 (base:Nat) (v:Value) (L:List (List UInt8)) (w:World) (h:w.ownsRow base 9 1 v L.length (fA L)) (hn:L.length≤1000000) (hlen:(Lib.join L [32]).length≤1000000000) :
  Calls Tryz.prog 63 #[v,.string ⟨#[32]⟩] w fun e w'=>e=.returned (.string ⟨(Lib.join L [32]).toArray⟩)∧Below w.heap.size w w':=by
 cases L with
 | nil =>
  obtain ⟨A,c,rfl⟩:=bJ h
  exact (Tryz.strings_Join_none A c ⟨#[32]⟩ w).mono (by rintro e w' ⟨rfl,rfl⟩; exact⟨rfl,Below.refl _ _⟩)
 | cons x r =>
  obtain ⟨g,cap,rfl,_,hlt⟩:=h.form (by simp)
  have hm:((x :: r).map fun x=>(⟨x.toArray⟩:ByteArray)).length=(x :: r).length:=List.length_map ..
  have hb:((x :: r).map fun x=>(⟨x.toArray⟩:ByteArray)).map (·.data.toList)=x :: r:=by rw [List.map_map]; exact List.map_id _
  have hJ:=Tryz.strings_Join g 0 cap ((x :: r).map fun x=>(⟨x.toArray⟩:ByteArray)) ⟨#[32]⟩ w (fun i y hy=>by
    have h1:=(List.getElem?_eq_some_iff.1 hy).1
    rw [hm] at h1
    have h2:=(h.cellAt i (by omega)).trans (show (fA (x :: r))[i]? = some (.string y) by rw [Fj,List.getElem?_map,hy]; rfl)
    rw [Nat.zero_add]; exact h2) hlt (by rw [hm]; omega) (by rw [hm]; exact qb h) (by rw [hb]; show (Lib.join (x :: r) [32]).length≤_; omega)
  rw [hm,hb] at hJ
  exact hJ
theorem I9 (a:Option Addr) (c:Nat) (l:List UInt8) (p:Nat) (er:Int) (w:World) (hn:l.length≤65536) (hl:eP w a l) (hw:EW w) (h:fZ l=.error (p,er)) :
  Calls Tryz.prog 25 #[.slice a l.length c] w fun e w'=>e=.returned (.tuple #[.slice none 0 0,.int .i64 p,.int .i64 er])∧Below w.heap.size w w' :=
 (Ah a c l w hn hl hw).mono (by
  rintro e w' ⟨ho,hb⟩
  unfold mg at ho
  rw [h] at ho
  exact⟨ho,hb⟩)
theorem Gy (w:World) (cs:Array Value) (l:List UInt8) (fr:Nat×Nat) (h:cs.toList=l.map (fun c=>Value.int .u8 c.toNat)):eP (w.alloc (.cells cs 5 fr)) (some ⟨w.heap.size,0,none⟩) l:=by
 refine Or.inr ⟨w.heap.size,0,rfl,fun i hi=>?_⟩
 rw [Nat.zero_add,World.cell?_alloc_mark,← Array.getElem?_toList,h,List.getElem?_map,List.getElem?_eq_getElem hi]
 rfl
end Go.Proofs.YtkkeocnnecegbaaGreatDoor
